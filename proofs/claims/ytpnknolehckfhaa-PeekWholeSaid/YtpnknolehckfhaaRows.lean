/-
  No cell of these rows narrows 'for every input' (looked for: loops, veiled, ifaces, maps, wideKeys, modest, calm, conditions, laid).
  DERIVED. THE GIVEN ROWS OF THIS SEAT. 3 by the template 'for every input the law returns true; each argument reads behind the call as it read before'; 0 by the template 'total and deterministic' (their statements: YtpnknolehckfhaaTotals.lean).
  GIVEN WITH THE SEED: the statements are not yours to turn. If you find one false, say at which input.
  Laid BY PROGRAM, IN A SANDBOX (cutbox-rows.mjs): the forced cells as the released guide's own fill.sh prints them over the translation c6d32e4084765cae… (all of the seat's roots in one cut). By AI agents, Wed Nov 11 2026. No macro, syntax, notation, axiom, sorry.
-/
import Derived.Test.YtpnknolehckfhaaChecked
import GoSem.Claim
import GoSem.ClaimJoined
import GoSem.ClaimMapViews
import Derived.JoinedTies
import Derived.KernelRfl
namespace Go.Proofs.Ytpnknolehckfhaa
/- THE CELL 'sum', in the pinned program and in every row, IS THE sha256 OF THE DUMP (.gsa) THAT YtpnknolehckfhaaProg.lean LOADS. Nothing in Lean hashes anything: it is a label: what it is worth is what the hold of that sum in a sandbox is worth. -/
noncomputable def Try.pinned : Pinned := { name := "ytpnknolehckfhaa", sum := "c6d32e4084765cae366d7ffc1b0a64b28dab9e207cf3a3a489785cb851532fb5", checked := Try.checked }
namespace Rows
def none {H : Type} : Left H := { results := [], args := [] }

/-- 'skylightlaw34.PeekWhole': WHATEVER THE INPUT: true; the input reads as it did. -/
def peekWholeSpec : ChangeSpec := { name := "peekWhole", fn := fun _ => fun
  | [d1, d2, d3, d4] => { results := [.lit (.bool true)], args := [d1, d2, d3, d4] }
  | _ => none }
def peekWholeRow : OpenClaim := { program := "ytpnknolehckfhaa", sum := "c6d32e4084765cae366d7ffc1b0a64b28dab9e207cf3a3a489785cb851532fb5", func := "skylight/skylightlaw34.PeekWhole", spec := "peekWhole", unfollowed := true, recurses := true, apart := false }
def PeekWholeSaid : Prop := peekWholeRow.holds Try.pinned (OpenSpec.ofChange peekWholeSpec)

/-- ITS FALSE NEIGHBOUR: 'it returns false'. Refute it at one input. -/
def peekWholeWrong : ChangeSpec := { name := "peekWhole", fn := fun _ => fun
  | [d1, d2, d3, d4] => { results := [.lit (.bool false)], args := [d1, d2, d3, d4] }
  | _ => none }
def PeekWholeWrongFalsely : Prop := peekWholeRow.holds Try.pinned (OpenSpec.ofChange peekWholeWrong)

/-- 'skylightlaw34.PeekPlays': WHATEVER THE INPUT: true; the input reads as it did. -/
def peekPlaysSpec : ChangeSpec := { name := "peekPlays", fn := fun _ => fun
  | [d1, d2, d3, d4] => { results := [.lit (.bool true)], args := [d1, d2, d3, d4] }
  | _ => none }
def peekPlaysRow : OpenClaim := { program := "ytpnknolehckfhaa", sum := "c6d32e4084765cae366d7ffc1b0a64b28dab9e207cf3a3a489785cb851532fb5", func := "skylight/skylightlaw34.PeekPlays", spec := "peekPlays", unfollowed := true, recurses := true, apart := false }
def PeekPlaysSaid : Prop := peekPlaysRow.holds Try.pinned (OpenSpec.ofChange peekPlaysSpec)

/-- ITS FALSE NEIGHBOUR: 'it returns false'. Refute it at one input. -/
def peekPlaysWrong : ChangeSpec := { name := "peekPlays", fn := fun _ => fun
  | [d1, d2, d3, d4] => { results := [.lit (.bool false)], args := [d1, d2, d3, d4] }
  | _ => none }
def PeekPlaysWrongFalsely : Prop := peekPlaysRow.holds Try.pinned (OpenSpec.ofChange peekPlaysWrong)

/-- 'skylightlaw34.PeekStill': WHATEVER THE INPUT: true; the input reads as it did. -/
def peekStillSpec : ChangeSpec := { name := "peekStill", fn := fun _ => fun
  | [d1, d2, d3, d4] => { results := [.lit (.bool true)], args := [d1, d2, d3, d4] }
  | _ => none }
def peekStillRow : OpenClaim := { program := "ytpnknolehckfhaa", sum := "c6d32e4084765cae366d7ffc1b0a64b28dab9e207cf3a3a489785cb851532fb5", func := "skylight/skylightlaw34.PeekStill", spec := "peekStill", unfollowed := true, recurses := true, apart := false }
def PeekStillSaid : Prop := peekStillRow.holds Try.pinned (OpenSpec.ofChange peekStillSpec)

/-- ITS FALSE NEIGHBOUR: 'it returns false'. Refute it at one input. -/
def peekStillWrong : ChangeSpec := { name := "peekStill", fn := fun _ => fun
  | [d1, d2, d3, d4] => { results := [.lit (.bool false)], args := [d1, d2, d3, d4] }
  | _ => none }
def PeekStillWrongFalsely : Prop := peekStillRow.holds Try.pinned (OpenSpec.ofChange peekStillWrong)

/- THE SECOND FORM. 'bulk': how many values and letters a reading holds, each counted each time it is reached (what is shared counts as often as it is met; a slice's spare places count too). A statement '..UptoSaid' is the law's where the arguments, and the package variables that the reading takes, are together of bulk at most 1048576: NARROWER than '..Said'. Prove '..Said' where nothing that the law and all that it calls make is longer than what came in: it says more and counts as full. Else prove '..UptoSaid'. A law counts once. -/
mutual
def uptoBulk {H : Type} : DataW H → Nat
  | .lit (.string bytes) => bytes.length + 1
  | .lit _ => 1
  | .nil => 1
  | .ptr d => uptoBulk d + 1
  | .slice elems spare => uptoBulkAll elems + uptoBulkAll spare + 1
  | .agg parts => uptoBulkAll parts + 1
  | .iface _ d => uptoBulk d + 1
  | .map entries => uptoBulkEntries entries + 1
  | .held _ => 1
def uptoBulkAll {H : Type} : List (DataW H) → Nat
  | [] => 0
  | d :: r => uptoBulk d + uptoBulkAll r
def uptoBulkEntries {H : Type} : List (Lit × DataW H) → Nat
  | [] => 0
  | x :: r => uptoBulkEntry x + uptoBulkEntries r
def uptoBulkEntry {H : Type} : Lit × DataW H → Nat
  | (.string bytes, d) => bytes.length + uptoBulk d + 1
  | (_, d) => uptoBulk d + 1
 end
def uptoSmall : (H : Type) → List (DataW H) → Bool := fun _ ds => decide (uptoBulkAll ds ≤ 1048576)
def OpenSpec.upto (s : _root_.Go.ChangeSpec) : _root_.Go.OpenSpec := { _root_.Go.OpenSpec.ofChange s with cond := some uptoSmall }

/-- 'skylightlaw34.PeekWhole', WHERE WHAT IT READS IS OF BULK AT MOST 1048576: true; the input reads as it did. -/
def peekWholeUptoRow : OpenClaim := { program := "ytpnknolehckfhaa", sum := "c6d32e4084765cae366d7ffc1b0a64b28dab9e207cf3a3a489785cb851532fb5", func := "skylight/skylightlaw34.PeekWhole", spec := "peekWhole", unfollowed := true, recurses := true, apart := false, narrowed := true }
def PeekWholeUptoSaid : Prop := peekWholeUptoRow.holds Try.pinned (OpenSpec.upto peekWholeSpec)

/-- 'skylightlaw34.PeekPlays', WHERE WHAT IT READS IS OF BULK AT MOST 1048576: true; the input reads as it did. -/
def peekPlaysUptoRow : OpenClaim := { program := "ytpnknolehckfhaa", sum := "c6d32e4084765cae366d7ffc1b0a64b28dab9e207cf3a3a489785cb851532fb5", func := "skylight/skylightlaw34.PeekPlays", spec := "peekPlays", unfollowed := true, recurses := true, apart := false, narrowed := true }
def PeekPlaysUptoSaid : Prop := peekPlaysUptoRow.holds Try.pinned (OpenSpec.upto peekPlaysSpec)

/-- 'skylightlaw34.PeekStill', WHERE WHAT IT READS IS OF BULK AT MOST 1048576: true; the input reads as it did. -/
def peekStillUptoRow : OpenClaim := { program := "ytpnknolehckfhaa", sum := "c6d32e4084765cae366d7ffc1b0a64b28dab9e207cf3a3a489785cb851532fb5", func := "skylight/skylightlaw34.PeekStill", spec := "peekStill", unfollowed := true, recurses := true, apart := false, narrowed := true }
def PeekStillUptoSaid : Prop := peekStillUptoRow.holds Try.pinned (OpenSpec.upto peekStillSpec)

end Rows
end Go.Proofs.Ytpnknolehckfhaa
