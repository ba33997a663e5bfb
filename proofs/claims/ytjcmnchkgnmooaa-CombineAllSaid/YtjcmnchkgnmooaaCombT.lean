/- The program's buffers: Take. -/
import Derived.Test.YtjcmnchkgnmooaaCombQ
set_option linter.unusedVariables false
set_option linter.unusedSimpArgs false
namespace Go.Proofs.Ytjcmnchkgnmooaa
open Go Go.Ax

def inS (s st : Int) (e : En) : Bool := decide (Int.tmod e.px s = st)
def outS (s st : Int) (e : En) : Bool := !inS s st e

/-- While entries are taken. -/
structure TI (M0 M : AMem) (b mp : Nat) (q : Option Addr) (qc : Nat) (p s room st : Int) (es : List En) (i : Nat) (o : Option Addr) (oc : Nat) (r : Option Addr) (rc : Nat) : Prop where
  hd : Cells M b [.int .i64 p, .int .i64 s, .int .i64 room, .map (some mp), .slice q es.length qc]
  mm : ∃ mes, M[mp]? = some (.map .i64 .i64 mes) ∧ (mes.map (·.1)).Nodup ∧ ∀ x, mget x mes = (if x ∈ (es.take i).map En.px then pix x ((es.take i).filter (outS s st)) else pix x es).map Int.ofNat
  sl : Slc M 4 q es.length qc (es.flatMap encE)
  so : Slc M 4 o ((es.take i).filter (inS s st)).length oc (((es.take i).filter (inS s st)).flatMap encE)
  sr : Slc M 4 r ((es.take i).filter (outS s st)).length rc (((es.take i).filter (outS s st)).flatMap encE)
  no : ∀ z ∈ blk o, M0.length ≤ z ∧ z ∉ blk r
  nr : ∀ z ∈ blk r, M0.length ≤ z
  same : Same M0 M [mp]

theorem pix_nil_of {x : Int} {es : List En} (h : x ∉ es.map En.px) : pix x es = none := pix_none.2 fun e he hx => h (by rw [hx]; exact List.mem_map_of_mem he)

theorem take_loop {M0 : AMem} {b mp : Nat} {q : Option Addr} {qc : Nat} {p s room st : Int} {es : List En} (h0 : IsBuf M0 b mp q qc p s room es) :
    ∀ (d i : Nat) (M : AMem) (o : Option Addr) (oc : Nat) (r : Option Addr) (rc : Nat), i + d = es.length → TI M0 M b mp q qc p s room st es i o oc r rc →
    ∃ M' o' oc' r' rc', P8_16 LL (some ⟨b, 0, none⟩) st o ((es.take i).filter (inS s st)).length oc r ((es.take i).filter (outS s st)).length rc q es.length qc (es.length : Int) (i : Int) M =
      P8_41 LL (some ⟨b, 0, none⟩) o' (es.filter (inS s st)).length oc' r' (es.filter (outS s st)).length rc' M' ∧ TI M0 M' b mp q qc p s room st es es.length o' oc' r' rc' := by
  obtain ⟨n1, n2, n3⟩ := h0.ne
  have hrm := h0.rm
  have hlt := h0.lt
  have hb : b < M0.length := hlt b (by simp [bufB])
  have hmp : mp < M0.length := hlt mp (by simp [bufB])
  intro d
  induction d with
  | zero =>
    intro i M o oc r rc hi h
    obtain rfl : i = es.length := by omega
    have h' := h
    rw [P8_16_eq LL L_loop, ifDn (by omega), List.take_length]
    exact ⟨M, o, oc, r, rc, rfl, h'⟩
  | succ d ih =>
    intro i M o oc r rc hi h
    have hil : i < es.length := by omega
    obtain ⟨e, he⟩ : ∃ e, es[i]? = some e := ⟨_, List.getElem?_eq_getElem hil⟩
    have hem := List.mem_of_getElem? he
    have hpx := h0.px e hem
    have ht : es.take (i + 1) = es.take i ++ [e] := by rw [List.take_add_one, he]; rfl
    have hg : (0 : Int) ≤ (i : Int) ∧ (i : Int) < Int.ofNat es.length := by rw [ofN]; omega
    have hw : IntKind.wrap .i64 ((i : Int) + 1) = ((i + 1 : Nat) : Int) := by rw [w64 (by omega)]; rfl
    -- its pixel is in none that came ahead
    have hnew : e.px ∉ (es.take i).map En.px := by
      have hd : es = es.take i ++ e :: es.drop (i + 1) := by
        rw [← List.take_append_drop i es]
        congr 1
        · simp
        · rw [List.take_append_drop, List.drop_eq_getElem_cons hil]; congr 1; exact (List.getElem?_eq_some_iff.1 he).2
      have hnd := h0.nd
      rw [hd, List.map_append, List.nodup_append] at hnd
      intro hm
      exact hnd.2.2 _ hm e.px (by simp) rfl
    obtain ⟨z, rfl, hz⟩ := h.sl.pos (by omega)
    obtain ⟨l0, l1, l2, l3⟩ := ent_ld hz.rd he
    have leM := h.same.le
    have hzlt := hlt z (by simp [bufB])
    have s1 := same_app M [AObj.cells [.int .i64 0, .int .u64 0, .int .u64 0, .int .u64 0] ⟨false, 0⟩]
    have g1 := cells_new M [.int .i64 0, .int .u64 0, .int .u64 0, .int .u64 0] 0
    obtain ⟨M1, w1, w2, w3, w4⟩ := g1.wr (o := 0) (vs := encE e) (by simp [encE])
    have w2' : Cells M1 M.length (encE e) := by simpa [wrL, encE] using w2
    have hM1l : M1.length = M.length + 1 := by rw [w4]; simp
    have t1 : Same M M1 [] := (s1.trans w3).mono' (fun b hb hl => by simp at hb; omega)
    have v0 : M1.ld M.length 0 = some (.int .i64 e.px) := w2'.ld 0
    have v1 : M1.ld M.length 1 = some (.int .u64 e.w0) := w2'.ld 1
    have v2 : M1.ld M.length 2 = some (.int .u64 e.w1) := w2'.ld 2
    have v3 : M1.ld M.length 3 = some (.int .u64 e.w2) := w2'.ld 3
    have hd1 := h.hd.same t1 (by simp)
    have p0 : M1.ld b 0 = some (.int .i64 p) := hd1.ld 0
    have p1 : M1.ld b 1 = some (.int .i64 s) := hd1.ld 1
    have so1 := h.so.same t1 (by simp)
    have sr1 := h.sr.same t1 (by simp)
    have olt := h.so.lt
    have rlt := h.sr.lt
    obtain ⟨mes, m1, m2, m3⟩ := h.mm
    obtain ⟨_, ks⟩ := stripe_spec p s e.px
    have e1 : (if Rt p s ∧ 0 ≤ e.px ∧ e.px < p then Int.tmod e.px s else -1) = Int.tmod e.px s := if_pos ⟨h0.rt, hpx⟩
    rw [e1] at ks
    have hol : ((es.take i).filter (inS s st)).length ≤ es.length := Nat.le_trans (List.length_filter_le _ _) (by simp; omega)
    have hrl : ((es.take i).filter (outS s st)).length ≤ es.length := Nat.le_trans (List.length_filter_le _ _) (by simp; omega)
    have keep : ∀ x, x ≠ e.px → ((x ∈ (es.take (i + 1)).map En.px) ↔ (x ∈ (es.take i).map En.px)) := fun x hx => by
      rw [ht, List.map_append, List.mem_append]
      simp [hx]
    have hself : e.px ∈ (es.take (i + 1)).map En.px := by rw [ht]; simp
    have hnr : pix e.px ((es.take i).filter (outS s st)) = none := pix_nil_of fun hm => by
      obtain ⟨y, hy, hyx⟩ := List.mem_map.1 hm
      exact hnew (by rw [← hyx]; exact List.mem_map_of_mem (List.mem_filter.1 hy).1)
    unfold encE at w1
    rw [P8_16_eq LL L_loop, ifD (by omega)]
    simp only [↓if_pos hg, Nat.zero_add, Int.toNat_natCast]
    rw [bLI l0, bLI l1, bLI l2, bLI l3, bX w1, bLI p0, bLI p1, bLI v0, bX ks, bI]
    by_cases hin : Int.tmod e.px s = st
    · have fi : inS s st e = true := decide_eq_true hin
      have fo : outS s st e = false := by unfold outS; rw [fi]; rfl
      have hin' : (es.take (i + 1)).filter (inS s st) = (es.take i).filter (inS s st) ++ [e] := by rw [ht, List.filter_append]; simp [fi]
      have hout' : (es.take (i + 1)).filter (outS s st) = (es.take i).filter (outS s st) := by rw [ht, List.filter_append]; simp [fo]
      rw [show (Int.tmod e.px s == st) = true by simpa using hin, ifT, bLI v0, bLI v1, bLI v2, bLI v3]
      obtain ⟨M2, c1, c2, c3, c4⟩ := append_row (bytes := 32) (v := 0) (new := encE e) (m := 1) so1 rfl (by omega) (by omega)
      have hrow := rowOf_new M1 4 1 (encE e) 0 4 rfl
      unfold encE at c1 hrow
      rw [bX hrow, c1]
      have hbo : ∀ x ∈ blk o, x ≠ b ∧ x ≠ mp ∧ x ≠ z ∧ x ≠ M.length := fun x hx => by
        have := (h.no x hx).1; have := olt x hx
        exact ⟨by omega, by omega, by omega, by omega⟩
      have hd2 := hd1.same c3 (fun hx => (hbo b hx).1 rfl)
      have q3 : M2.ld b 3 = some (.map (some mp)) := hd2.ld 3
      have w22 := w2'.same c3 (fun hx => (hbo _ hx).2.2.2 rfl)
      have u0 : M2.ld M.length 0 = some (.int .i64 e.px) := w22.ld 0
      have m12 : M2[mp]? = some (.map .i64 .i64 mes) := c3.at (t1.at m1 (by simp)) (fun hx => (hbo _ hx).2.1 rfl)
      rw [bAny q3, bLI u0, bMap, bX (mp_get m12)]
      obtain ⟨M3, eM3⟩ : ∃ M3, M3 = AMem.mput M2 .i64 .i64 (some mp) (mdel e.px mes) := ⟨_, rfl⟩
      have t3 : Same M2 M3 [mp] := by rw [eM3]; exact mput_same
      have g3 : M3[mp]? = some (.map .i64 .i64 (mdel e.px mes)) := by rw [eM3]; exact mput_get m12
      rw [← eM3, P8_40_eq, hw]
      have tA : Same M M3 (blk o ++ [mp]) := ((t1.trans c3).trans t3).mono (by simp)
      have nI : TI M0 M3 b mp (some ⟨z, 0, none⟩) qc p s room st es (i + 1) (some ⟨M1.length + 1, 0, none⟩) 4 r rc := by
        refine ⟨hd2.same t3 (by simp; exact fun e => n1 e.symm), ⟨_, g3, mdel_nodup _ _ m2, fun x => ?_⟩, h.sl.same tA (fun x hx => ?_), ?_, ?_, fun x hx => ?_, h.nr, ?_⟩
        · by_cases c : x = e.px
          · rw [if_pos (by rw [c]; exact hself), hout', c, hnr, mget_self _ _ m2]; rfl
          · rw [mget_mdel _ _ _ c, m3, hout']
            congr 1
            by_cases k : x ∈ (es.take i).map En.px
            · rw [if_pos k, if_pos ((keep x c).2 k)]
            · rw [if_neg k, if_neg (fun hh => k ((keep x c).1 hh))]
        · simp only [blk_some, List.mem_singleton] at hx
          subst hx
          simp only [List.mem_append, List.mem_singleton, not_or]
          exact ⟨fun hx => (hbo _ hx).2.2.1 rfl, fun e => n3 (by simp [e])⟩
        · rw [hin', List.length_append, List.length_singleton, List.flatMap_append]
          have := c2.same t3 (by simp; omega)
          simpa [encE] using this
        · rw [hout']
          refine h.sr.same tA fun x hx => ?_
          simp only [List.mem_append, List.mem_singleton, not_or]
          exact ⟨fun hxo => (h.no x hxo).2 hx, fun e => by have := h.nr x hx; omega⟩
        · simp only [blk_some, List.mem_singleton] at hx
          subst hx
          exact ⟨by omega, fun hx => by have := rlt _ hx; omega⟩
        · exact (h.same.trans tA).mono' fun x hx hl => by
            simp only [List.mem_append, List.mem_singleton] at hx
            rcases hx with hx | hx | hx
            · simp [hx]
            · have := (h.no x hx).1; omega
            · simp [hx]
      have := ih (i + 1) M3 _ 4 r rc (by omega) nI
      rw [hin', hout', List.length_append, List.length_singleton] at this
      exact this
    · have fi : inS s st e = false := decide_eq_false hin
      have fo : outS s st e = true := by unfold outS; rw [fi]; rfl
      have hin' : (es.take (i + 1)).filter (inS s st) = (es.take i).filter (inS s st) := by rw [ht, List.filter_append]; simp [fi]
      have hout' : (es.take (i + 1)).filter (outS s st) = (es.take i).filter (outS s st) ++ [e] := by rw [ht, List.filter_append]; simp [fo]
      rw [show (Int.tmod e.px s == st) = false by simpa using hin, ifF]
      have q3 : M1.ld b 3 = some (.map (some mp)) := hd1.ld 3
      have m11 : M1[mp]? = some (.map .i64 .i64 mes) := t1.at m1 (by simp)
      rw [bAny q3, bLI v0, bMap, bX (mp_get m11)]
      obtain ⟨M2, eM2⟩ : ∃ M2, M2 = AMem.mput M1 .i64 .i64 (some mp) (mset e.px (Int.ofNat ((es.take i).filter (outS s st)).length) mes) := ⟨_, rfl⟩
      have t2 : Same M1 M2 [mp] := by rw [eM2]; exact mput_same
      have g2 : M2[mp]? = some (.map .i64 .i64 (mset e.px (Int.ofNat ((es.take i).filter (outS s st)).length) mes)) := by rw [eM2]; exact mput_get m11
      have hM2l : M2.length = M1.length := by rw [eM2]; exact mput_len _ _ _ _ _
      rw [← eM2]
      have w22 := w2'.same t2 (by simp; omega)
      have u0 : M2.ld M.length 0 = some (.int .i64 e.px) := w22.ld 0
      have u1 : M2.ld M.length 1 = some (.int .u64 e.w0) := w22.ld 1
      have u2 : M2.ld M.length 2 = some (.int .u64 e.w1) := w22.ld 2
      have u3 : M2.ld M.length 3 = some (.int .u64 e.w2) := w22.ld 3
      have sr2 := sr1.same t2 (fun x hx => by simp; intro e; have := h.nr x hx; omega)
      obtain ⟨M3, c1, c2, c3, c4⟩ := append_row (bytes := 32) (v := 0) (new := encE e) (m := 1) sr2 rfl (by omega) (by omega)
      have hrow := rowOf_new M2 4 1 (encE e) 0 4 rfl
      unfold encE at c1 hrow
      rw [bLI u0, bLI u1, bLI u2, bLI u3, bX hrow, c1, P8_40_eq, hw]
      have hbr : ∀ x ∈ blk r, x ≠ b ∧ x ≠ mp ∧ x ≠ z := fun x hx => by
        have := h.nr x hx
        exact ⟨by omega, by omega, by omega⟩
      have tA : Same M M3 (mp :: blk r) := ((t1.trans t2).trans c3).mono (by simp)
      have nI : TI M0 M3 b mp (some ⟨z, 0, none⟩) qc p s room st es (i + 1) o oc (some ⟨M2.length + 1, 0, none⟩) 4 := by
        refine ⟨(hd1.same t2 (by simp; exact fun e => n1 e.symm)).same c3 (fun hx => (hbr _ hx).1 rfl), ⟨_, c3.at g2 (fun hx => (hbr _ hx).2.1 rfl), mset_nodup _ _ _ m2, fun x => ?_⟩, h.sl.same tA (fun x hx => ?_), ?_, ?_, fun x hx => ⟨(h.no x hx).1, ?_⟩, fun x hx => ?_, ?_⟩
        · rw [mget_mset]
          by_cases c : x = e.px
          · rw [if_pos c, if_pos (by rw [c]; exact hself), hout', pix_app, c, hnr]
            simp
          · rw [if_neg c, m3, hout']
            congr 1
            by_cases k : x ∈ (es.take i).map En.px
            · rw [if_pos k, if_pos ((keep x c).2 k), pix_app]
              cases pix x ((es.take i).filter (outS s st)) with
              | some g => rfl
              | none => simp [c]
            · rw [if_neg k, if_neg (fun hh => k ((keep x c).1 hh))]
        · simp only [blk_some, List.mem_singleton] at hx
          subst hx
          simp only [List.mem_cons, not_or]
          exact ⟨fun e => n3 (by simp [e]), fun hx => (hbr _ hx).2.2 rfl⟩
        · rw [hin']
          refine h.so.same tA fun x hx => ?_
          simp only [List.mem_cons, not_or]
          exact ⟨fun e => by have := (h.no x hx).1; omega, (h.no x hx).2⟩
        · rw [hout', List.length_append, List.length_singleton, List.flatMap_append]
          simpa [encE] using c2
        · simp only [blk_some, List.mem_singleton]
          intro e
          have := olt x hx; omega
        · simp only [blk_some, List.mem_singleton] at hx
          subst hx; omega
        · exact (h.same.trans tA).mono' fun x hx hl => by
            simp only [List.mem_append, List.mem_cons, List.mem_singleton, List.not_mem_nil, or_false] at hx
            rcases hx with hx | hx | hx
            · simp [hx]
            · simp [hx]
            · have := h.nr x hx; omega
      have := ih (i + 1) M3 o oc _ 4 (by omega) nI
      rw [hin', hout', List.length_append, List.length_singleton] at this
      exact this

theorem take_spec {M : AMem} {b mp : Nat} {q : Option Addr} {qc : Nat} {p s room : Int} {es : List En} (st : Int) (h : IsBuf M b mp q qc p s room es) :
    ∃ M' o oc r rc, LL.call 8 [bp b, .int .i64 st] M = some (.slice o (es.filter (inS s st)).length oc, M') ∧ IsBuf M' b mp r rc p s room (es.filter (outS s st)) ∧ Slc M' 4 o (es.filter (inS s st)).length oc ((es.filter (inS s st)).flatMap encE) ∧
      Same M M' [b, mp] ∧ (∀ z ∈ blk o, M.length ≤ z ∧ z ∉ blk r) ∧ (∀ z ∈ blk r, M.length ≤ z) := by
  rw [L_call8, E8, bX (bgiven h), bB, ifNT]
  have l4 : M.ld b 4 = some (.slice q es.length qc) := h.hd.ld 4
  obtain ⟨mes, m1, m2, m3⟩ := h.mm
  obtain ⟨n1, n2, n3⟩ := h.ne
  simp only [Nat.zero_add]
  rw [bLS l4]
  have hlt := h.lt
  have hb := hlt b (by simp [bufB])
  have hI : TI M M b mp q qc p s room st es 0 none 0 none 0 := ⟨h.hd, ⟨mes, m1, m2, fun x => by rw [m3]; simp⟩, h.sl, .nil _ _ _, .nil _ _ _, by simp, by simp, .refl _ _⟩
  obtain ⟨M1, o, oc, r, rc, e, k⟩ := take_loop h es.length 0 M none 0 none 0 (by omega) hI
  have e' : P8_16 LL (some ⟨b, 0, none⟩) st none 0 0 none 0 0 q es.length qc (Int.ofNat es.length) 0 M = _ := e
  simp only
  rw [e', P8_41_eq]
  simp only [Nat.zero_add]
  obtain ⟨M2, w1, w2, w3, w4⟩ := k.hd.wr (o := 4) (vs := [.slice r (es.filter (outS s st)).length rc]) (by simp)
  rw [bX w1]
  have leM := k.same.le
  have hso := k.so
  have hsr := k.sr
  rw [List.take_length] at hso hsr
  have hob : ∀ z ∈ blk o, z ∉ [b] := fun z hz => by have := (k.no z hz).1; simp; omega
  have hrb : ∀ z ∈ blk r, z ∉ [b] := fun z hz => by have := k.nr z hz; simp; omega
  obtain ⟨mes', k1, k2, k3⟩ := k.mm
  refine ⟨M2, o, oc, r, rc, rfl, ⟨by simpa [wrL] using w2, ⟨mes', w3.at k1 (by simpa using n1), k2, fun x => ?_⟩, hsr.same w3 hrb, ⟨n1, fun hx => hrb b hx (by simp), fun hx => ?_⟩, h.rt, ?_, fun y hy => h.px y (List.mem_filter.1 hy).1, ?_⟩, hso.same w3 hob, (k.same.trans w3).mono (by simp), k.no, k.nr⟩
  · rw [k3, List.take_length]
    by_cases c : x ∈ es.map En.px
    · rw [if_pos c]
    · rw [if_neg c, pix_nil_of c, pix_nil_of fun hm => by
        obtain ⟨y, hy, hyx⟩ := List.mem_map.1 hm
        exact c (by rw [← hyx]; exact List.mem_map_of_mem (List.mem_filter.1 hy).1)]
  · have := k.nr mp hx; have := hlt mp (by simp [bufB]); omega
  · exact (List.filter_sublist.map _).nodup h.nd
  · have := h.rm
    have := List.length_filter_le (outS s st) es
    omega

end Go.Proofs.Ytjcmnchkgnmooaa
