/- Pictures in blocks; pictures that are being made. -/
import Derived.Test.YtncfdkmhpnopiaaPic3
import Derived.Test.YtncfdkmhpnopiaaAxD
set_option linter.unusedVariables false
set_option linter.unusedSimpArgs false
namespace Go.Proofs.Ytncfdkmhpnopiaa
open Go Go.Ax

theorem wrL_full : ∀ (cs zs pre : List Value), cs.length = zs.length → wrL (pre ++ zs) pre.length cs = pre ++ cs
  | [], [], pre, _ => by simp [wrL]
  | [], _ :: _, _, h => by simp at h
  | _ :: _, [], _, h => by simp at h
  | v :: cs, z :: zs, pre, h => by
    have := wrL_full cs zs (pre ++ [v]) (by simpa using h)
    simp only [List.length_append, List.length_singleton] at this
    simp only [wrL]
    rw [show (pre ++ z :: zs).set pre.length v = (pre ++ [v]) ++ zs by simp, this]
    simp

/-- A block that is made and written at once. -/
theorem wr_new (M : AMem) (zs cs : List Value) (v : Nat) (h : cs.length = zs.length) :
    ∃ M', AMem.wr (M ++ [AObj.cells zs ⟨false, v⟩]) (List.length M) 0 cs = some M' ∧ Cells M' M.length cs ∧ Same M M' [] ∧ M'.length = M.length + 1 := by
  have g := cells_new M zs v
  obtain ⟨M', w1, w2, w3, w4⟩ := g.wr (o := 0) (vs := cs) (by omega)
  refine ⟨M', w1, ?_, ((same_app M _).trans w3).mono' (by simp), by rw [w4]; simp⟩
  have := wrL_full cs zs [] h
  simp only [List.nil_append, List.length_nil] at this
  rwa [this] at w2

theorem PFit.len {W H : Int} {l : List Px} (h : PFit W H l) : 1 ≤ l.length ∧ l.length ≤ 65536 := by
  obtain ⟨_, h1, h2, h3⟩ := h
  have a := Int.mul_le_mul h1.2 h2.2 (by omega) (by omega)
  have b := Int.mul_le_mul h1.1 h2.1 (by omega) (by omega)
  omega

theorem take_snoc {α : Type} {l : List α} {i : Nat} {x : α} (h : l[i]? = some x) : l.take (i + 1) = l.take i ++ [x] := by
  rw [List.take_add_one, h]; rfl

theorem px_beq (x y : Px) : ((x.r == y.r) && ((x.g == y.g) && (x.b == y.b))) = decide (x = y) := by
  rcases x with ⟨a, b, c⟩
  rcases y with ⟨d, e, f⟩
  by_cases h1 : a = d <;> by_cases h2 : b = e <;> by_cases h3 : c = f <;> simp [h1, h2, h3]

theorem picV_ld {M : AMem} {b : Nat} {W H : Int} {p : Option Addr} {n c : Nat} (h : Rd M b [.int .i64 W, .int .i64 H, .slice p n c]) : M.ld b 0 = some (.int .i64 W) ∧ M.ld b 1 = some (.int .i64 H) ∧ M.ld b 2 = some (.slice p n c) := ⟨h.ld 0, h.ld 1, h.ld 2⟩

def Px.upd (x : Px) (c : Nat) (v : Int) : Px := match c with
  | 0 => ⟨v, x.g, x.b⟩
  | 1 => ⟨x.r, v, x.b⟩
  | _ => ⟨x.r, x.g, v⟩

theorem encP_upd (x : Px) {c : Nat} (hc : c < 3) (v : Int) : encP (x.upd c v) = (encP x).set c (.int .i64 v) := by
  match c, hc with
  | 0, _ => rfl
  | 1, _ => rfl
  | 2, _ => rfl

/-- A picture that lies in a block. -/
structure IsPic (M : AMem) (b : Nat) (W H : Int) (p : Option Addr) (c : Nat) (l : List Px) : Prop where
  hd : Rd M b [.int .i64 W, .int .i64 H, .slice p l.length c]
  px : RdL M encP p l.length l

theorem IsPic.st {M M' : AMem} {b : Nat} {W H : Int} {p : Option Addr} {c : Nat} {l : List Px} (h : IsPic M b W H p c l) (s : Same M M' []) : IsPic M' b W H p c l := ⟨h.hd.same s (by simp), h.px.same s (by simp)⟩
theorem IsPic.lt {M : AMem} {b : Nat} {W H : Int} {p : Option Addr} {c : Nat} {l : List Px} (h : IsPic M b W H p c l) : b < M.length := h.hd.lt

theorem rdl_of {M : AMem} {a : Nat} {l : List Px} (h : Cells M a (l.flatMap encP)) : RdL M encP (some ⟨a, 0, none⟩) l.length l := ⟨rfl, fun _ => ⟨a, rfl, h.rd⟩⟩

def chn (x : Px) (c : Nat) : Int := match c with
  | 0 => x.r
  | 1 => x.g
  | _ => x.b

theorem px_ldc {M : AMem} {a : Nat} {l : List Px} (h : Rd M a (l.flatMap encP)) {i c : Nat} {x : Px} (hi : l[i]? = some x) (hc : c < 3) : M.ld a (i * 3 + c) = some (.int .i64 (chn x c)) := by
  rw [h.ld, flat_get encP_length l i c x hi hc]
  match c, hc with
  | 0, _ => rfl
  | 1, _ => rfl
  | 2, _ => rfl

theorem chn_fit {x : Px} (h : x.fit) (c : Nat) : 0 ≤ chn x c ∧ chn x c ≤ 255 := by
  unfold Px.fit at h
  unfold chn
  split <;> omega

/-- A picture that is being made. -/
structure Out (M0 M : AMem) (b : Nat) (W H : Int) (L : List Px) : Prop where
  ex : ∃ p c, Cells M b [.int .i64 W, .int .i64 H, .slice p L.length c] ∧ Slc M 3 p L.length c (L.flatMap encP) ∧ (∀ x ∈ blk p, M0.length ≤ x ∧ x ≠ b)
  same : Same M0 M []
  hb : M0.length ≤ b

theorem Out.st {M0 M M' : AMem} {b : Nat} {W H : Int} {L : List Px} (h : Out M0 M b W H L) (s : Same M M' []) : Out M0 M' b W H L := by
  obtain ⟨p, c, h1, h2, h3⟩ := h.ex
  exact ⟨⟨p, c, h1.same s (by simp), h2.same s (by simp), h3⟩, (h.same.trans s).mono (by simp), h.hb⟩

theorem out_app {M0 M : AMem} {b : Nat} {W H : Int} {L : List Px} (h : Out M0 M b W H L) (hl : L.length ≤ 65536) (y : Px) :
    ∃ p c M9 M10, M.ld b 2 = some (.slice p L.length c) ∧ rowOf (M ++ [AObj.cells [.int .i64 y.r, .int .i64 y.g, .int .i64 y.b] ⟨false, 0⟩]) 3 (.slice (some ⟨List.length M, 0, none⟩) 1 3) = some (encP y) ∧
      (∀ K : Option Addr → Nat → Nat → AMem → Res, appendK 3 24 p L.length c 1 (encP y) (M ++ [AObj.cells [.int .i64 y.r, .int .i64 y.g, .int .i64 y.b] ⟨false, 0⟩]) K = K (some ⟨M.length + 1, 0, none⟩) (L.length + 1) 3 M9) ∧
      AMem.wr M9 b 2 [.slice (some ⟨M.length + 1, 0, none⟩) (L.length + 1) 3] = some M10 ∧ Out M0 M10 b W H (L ++ [y]) := by
  obtain ⟨p, c, h1, h2, h3⟩ := h.ex
  have hb := h.hb
  obtain ⟨M9, k1, k2, k3⟩ := grn_row (bytes := 24) (new := encP y) (m := 1) (v := 0) h2 rfl (by omega) (by omega)
  have hlt := h2.lt
  have hrow := rowOf_new M 3 1 (encP y) 0 3 rfl
  have hMl := h1.lt
  have h1' := h1.same k3.same (fun hx => (h3 b hx).2 rfl)
  obtain ⟨M10, w1, w2, w3, w4⟩ := h1'.wr (o := 2) (vs := [.slice (some ⟨M.length + 1, 0, none⟩) (L.length + 1) 3]) (by simp)
  have w2' : Cells M10 b [.int .i64 W, .int .i64 H, .slice (some ⟨M.length + 1, 0, none⟩) (L ++ [y]).length 3] := by simpa [wrL] using w2
  refine ⟨p, c, M9, M10, h1.ld 2, hrow, k1, w1, ⟨_, _, w2', ?_, ?_⟩, ?_, hb⟩
  · have := k2.same w3 (by simp; omega)
    simpa using this
  · have := h.same.le
    simp; omega
  · refine ((h.same.trans k3.same).trans w3).mono' fun x hx hlt' => ?_
    simp only [List.nil_append, List.mem_append, List.mem_singleton] at hx
    rcases hx with hx | hx
    · have := (h3 x hx).1; omega
    · omega

theorem Out.pic {M0 M : AMem} {b : Nat} {W H : Int} {L : List Px} (h : Out M0 M b W H L) (hl : 1 ≤ L.length) : ∃ p c, Cells M b [.int .i64 W, .int .i64 H, .slice p L.length c] ∧ RdL M encP p L.length L ∧ (∀ x ∈ blk p, M0.length ≤ x ∧ x ≠ b) := by
  obtain ⟨p, c, h1, h2, h3⟩ := h.ex
  obtain ⟨a, rfl, ha⟩ := h2.pos (by omega)
  exact ⟨_, c, h1, ⟨rfl, fun _ => ⟨a, rfl, ha.rd⟩⟩, h3⟩

end Go.Proofs.Ytncfdkmhpnopiaa
