/-
  No cell of these rows narrows 'for every input' (looked for: loops, veiled, ifaces, maps, wideKeys, modest, calm, conditions, laid).
  DERIVED. THE GIVEN ROWS OF THIS SEAT. 3 by the template 'for every input the law returns true; each argument reads behind the call as it read before'; 0 by the template 'total and deterministic' (their statements: YtmpgngilhhmlcaaTotals.lean).
  GIVEN WITH THE SEED: the statements are not yours to turn. If you find one false, say at which input.
  Laid BY PROGRAM, IN A SANDBOX (cutbox-rows.mjs): the forced cells as the released guide's own fill.sh prints them over the translation b0cb78da187eccb4… (all of the seat's roots in one cut). By AI agents, Wed Nov 11 2026. No macro, syntax, notation, axiom, sorry.
-/
import Derived.Test.YtmpgngilhhmlcaaChecked
import GoSem.Claim
import GoSem.ClaimJoined
import GoSem.ClaimMapViews
import Derived.JoinedTies
import Derived.KernelRfl
namespace Go.Proofs.Ytmpgngilhhmlcaa
/- THE CELL 'sum', in the pinned program and in every row, IS THE sha256 OF THE DUMP (.gsa) THAT YtmpgngilhhmlcaaProg.lean LOADS. Nothing in Lean hashes anything: it is a label: what it is worth is what the hold of that sum in a sandbox is worth. -/
noncomputable def Try.pinned : Pinned := { name := "ytmpgngilhhmlcaa", sum := "b0cb78da187eccb4b8a65b81b72acec76abd5748adbd418e0a75e3edd403bd59", checked := Try.checked }
namespace Rows
def none {H : Type} : Left H := { results := [], args := [] }

/-- 'skylightlaw33.FlushOnce': WHATEVER THE INPUT: true; the input reads as it did. -/
def flushOnceSpec : ChangeSpec := { name := "flushOnce", fn := fun _ => fun
  | [d1, d2, d3] => { results := [.lit (.bool true)], args := [d1, d2, d3] }
  | _ => none }
def flushOnceRow : OpenClaim := { program := "ytmpgngilhhmlcaa", sum := "b0cb78da187eccb4b8a65b81b72acec76abd5748adbd418e0a75e3edd403bd59", func := "skylight/skylightlaw33.FlushOnce", spec := "flushOnce", unfollowed := true, recurses := true, apart := false }
def FlushOnceSaid : Prop := flushOnceRow.holds Try.pinned (OpenSpec.ofChange flushOnceSpec)

/-- ITS FALSE NEIGHBOUR: 'it returns false'. Refute it at one input. -/
def flushOnceWrong : ChangeSpec := { name := "flushOnce", fn := fun _ => fun
  | [d1, d2, d3] => { results := [.lit (.bool false)], args := [d1, d2, d3] }
  | _ => none }
def FlushOnceWrongFalsely : Prop := flushOnceRow.holds Try.pinned (OpenSpec.ofChange flushOnceWrong)

/-- 'skylightlaw33.FlushLost': WHATEVER THE INPUT: true; the input reads as it did. -/
def flushLostSpec : ChangeSpec := { name := "flushLost", fn := fun _ => fun
  | [d1, d2, d3] => { results := [.lit (.bool true)], args := [d1, d2, d3] }
  | _ => none }
def flushLostRow : OpenClaim := { program := "ytmpgngilhhmlcaa", sum := "b0cb78da187eccb4b8a65b81b72acec76abd5748adbd418e0a75e3edd403bd59", func := "skylight/skylightlaw33.FlushLost", spec := "flushLost", unfollowed := true, recurses := true, apart := false }
def FlushLostSaid : Prop := flushLostRow.holds Try.pinned (OpenSpec.ofChange flushLostSpec)

/-- ITS FALSE NEIGHBOUR: 'it returns false'. Refute it at one input. -/
def flushLostWrong : ChangeSpec := { name := "flushLost", fn := fun _ => fun
  | [d1, d2, d3] => { results := [.lit (.bool false)], args := [d1, d2, d3] }
  | _ => none }
def FlushLostWrongFalsely : Prop := flushLostRow.holds Try.pinned (OpenSpec.ofChange flushLostWrong)

/-- 'skylightlaw33.FlushPlays': WHATEVER THE INPUT: true; the input reads as it did. -/
def flushPlaysSpec : ChangeSpec := { name := "flushPlays", fn := fun _ => fun
  | [d1, d2, d3] => { results := [.lit (.bool true)], args := [d1, d2, d3] }
  | _ => none }
def flushPlaysRow : OpenClaim := { program := "ytmpgngilhhmlcaa", sum := "b0cb78da187eccb4b8a65b81b72acec76abd5748adbd418e0a75e3edd403bd59", func := "skylight/skylightlaw33.FlushPlays", spec := "flushPlays", unfollowed := true, recurses := true, apart := false }
def FlushPlaysSaid : Prop := flushPlaysRow.holds Try.pinned (OpenSpec.ofChange flushPlaysSpec)

/-- ITS FALSE NEIGHBOUR: 'it returns false'. Refute it at one input. -/
def flushPlaysWrong : ChangeSpec := { name := "flushPlays", fn := fun _ => fun
  | [d1, d2, d3] => { results := [.lit (.bool false)], args := [d1, d2, d3] }
  | _ => none }
def FlushPlaysWrongFalsely : Prop := flushPlaysRow.holds Try.pinned (OpenSpec.ofChange flushPlaysWrong)

/- THE SECOND FORM. 'bulk': how many values and letters a reading holds, each counted each time it is reached (what is shared counts as often as it is met; a slice's spare places count too). A statement '..UptoSaid' is the law's where the arguments, and the package variables that the reading takes, are together of bulk at most 1048576: NARROWER than '..Said'. Prove '..Said' where nothing that the law and all that it calls make is longer than what came in: it says more and counts as full. Else prove '..UptoSaid'. A law counts once. -/
mutual
def uptoBulk {H : Type} : DataW H → Nat
  | .lit (.string bytes) => bytes.length + 1
  | .lit _ => 1
  | .nil => 1
  | .ptr d => uptoBulk d + 1
  | .slice elems spare => uptoBulkAll elems + uptoBulkAll spare + 1
  | .agg parts => uptoBulkAll parts + 1
  | .iface _ d => uptoBulk d + 1
  | .map entries => uptoBulkEntries entries + 1
  | .held _ => 1
def uptoBulkAll {H : Type} : List (DataW H) → Nat
  | [] => 0
  | d :: r => uptoBulk d + uptoBulkAll r
def uptoBulkEntries {H : Type} : List (Lit × DataW H) → Nat
  | [] => 0
  | x :: r => uptoBulkEntry x + uptoBulkEntries r
def uptoBulkEntry {H : Type} : Lit × DataW H → Nat
  | (.string bytes, d) => bytes.length + uptoBulk d + 1
  | (_, d) => uptoBulk d + 1
 end
def uptoSmall : (H : Type) → List (DataW H) → Bool := fun _ ds => decide (uptoBulkAll ds ≤ 1048576)
def OpenSpec.upto (s : _root_.Go.ChangeSpec) : _root_.Go.OpenSpec := { _root_.Go.OpenSpec.ofChange s with cond := some uptoSmall }

/-- 'skylightlaw33.FlushOnce', WHERE WHAT IT READS IS OF BULK AT MOST 1048576: true; the input reads as it did. -/
def flushOnceUptoRow : OpenClaim := { program := "ytmpgngilhhmlcaa", sum := "b0cb78da187eccb4b8a65b81b72acec76abd5748adbd418e0a75e3edd403bd59", func := "skylight/skylightlaw33.FlushOnce", spec := "flushOnce", unfollowed := true, recurses := true, apart := false, narrowed := true }
def FlushOnceUptoSaid : Prop := flushOnceUptoRow.holds Try.pinned (OpenSpec.upto flushOnceSpec)

/-- 'skylightlaw33.FlushLost', WHERE WHAT IT READS IS OF BULK AT MOST 1048576: true; the input reads as it did. -/
def flushLostUptoRow : OpenClaim := { program := "ytmpgngilhhmlcaa", sum := "b0cb78da187eccb4b8a65b81b72acec76abd5748adbd418e0a75e3edd403bd59", func := "skylight/skylightlaw33.FlushLost", spec := "flushLost", unfollowed := true, recurses := true, apart := false, narrowed := true }
def FlushLostUptoSaid : Prop := flushLostUptoRow.holds Try.pinned (OpenSpec.upto flushLostSpec)

/-- 'skylightlaw33.FlushPlays', WHERE WHAT IT READS IS OF BULK AT MOST 1048576: true; the input reads as it did. -/
def flushPlaysUptoRow : OpenClaim := { program := "ytmpgngilhhmlcaa", sum := "b0cb78da187eccb4b8a65b81b72acec76abd5748adbd418e0a75e3edd403bd59", func := "skylight/skylightlaw33.FlushPlays", spec := "flushPlays", unfollowed := true, recurses := true, apart := false, narrowed := true }
def FlushPlaysUptoSaid : Prop := flushPlaysUptoRow.holds Try.pinned (OpenSpec.upto flushPlaysSpec)

end Rows
end Go.Proofs.Ytmpgngilhhmlcaa
