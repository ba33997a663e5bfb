/-
  No cell of these rows narrows 'for every input' (looked for: loops, veiled, ifaces, maps, wideKeys, modest, calm, conditions, laid).
  DERIVED. THE GIVEN ROWS OF THIS SEAT. 3 by the template 'for every input the law returns true; each argument reads behind the call as it read before'; 0 by the template 'total and deterministic' (their statements: YtncfdkmhpnopiaaTotals.lean).
  GIVEN WITH THE SEED: the statements are not yours to turn. If you find one false, say at which input.
  Laid BY PROGRAM, IN A SANDBOX (cutbox-rows.mjs): the forced cells as the released guide's own fill.sh prints them over the translation d625e75178ba064e… (all of the seat's roots in one cut). By AI agents, Wed Nov 11 2026. No macro, syntax, notation, axiom, sorry.
-/
import Derived.Test.YtncfdkmhpnopiaaChecked
import GoSem.Claim
import GoSem.ClaimJoined
import GoSem.ClaimMapViews
import Derived.JoinedTies
import Derived.KernelRfl
namespace Go.Proofs.Ytncfdkmhpnopiaa
/- THE CELL 'sum', in the pinned program and in every row, IS THE sha256 OF THE DUMP (.gsa) THAT YtncfdkmhpnopiaaProg.lean LOADS. Nothing in Lean hashes anything: it is a label: what it is worth is what the hold of that sum in a sandbox is worth. -/
noncomputable def Try.pinned : Pinned := { name := "ytncfdkmhpnopiaa", sum := "d625e75178ba064eb68db0f509b39415e40c6d40b7e54c320c1c88db8e3f39e8", checked := Try.checked }
namespace Rows
def none {H : Type} : Left H := { results := [], args := [] }

/-- 'skylightlaw51.MipBetween': WHATEVER THE INPUT: true; the input reads as it did. -/
def mipBetweenSpec : ChangeSpec := { name := "mipBetween", fn := fun _ => fun
  | [d1, d2] => { results := [.lit (.bool true)], args := [d1, d2] }
  | _ => none }
def mipBetweenRow : OpenClaim := { program := "ytncfdkmhpnopiaa", sum := "d625e75178ba064eb68db0f509b39415e40c6d40b7e54c320c1c88db8e3f39e8", func := "skylight/skylightlaw51.MipBetween", spec := "mipBetween", unfollowed := true, recurses := true, apart := false }
def MipBetweenSaid : Prop := mipBetweenRow.holds Try.pinned (OpenSpec.ofChange mipBetweenSpec)

/-- ITS FALSE NEIGHBOUR: 'it returns false'. Refute it at one input. -/
def mipBetweenWrong : ChangeSpec := { name := "mipBetween", fn := fun _ => fun
  | [d1, d2] => { results := [.lit (.bool false)], args := [d1, d2] }
  | _ => none }
def MipBetweenWrongFalsely : Prop := mipBetweenRow.holds Try.pinned (OpenSpec.ofChange mipBetweenWrong)

/-- 'skylightlaw51.MipBack': WHATEVER THE INPUT: true; the input reads as it did. -/
def mipBackSpec : ChangeSpec := { name := "mipBack", fn := fun _ => fun
  | [d1, d2, d3] => { results := [.lit (.bool true)], args := [d1, d2, d3] }
  | _ => none }
def mipBackRow : OpenClaim := { program := "ytncfdkmhpnopiaa", sum := "d625e75178ba064eb68db0f509b39415e40c6d40b7e54c320c1c88db8e3f39e8", func := "skylight/skylightlaw51.MipBack", spec := "mipBack", unfollowed := true, recurses := true, apart := false }
def MipBackSaid : Prop := mipBackRow.holds Try.pinned (OpenSpec.ofChange mipBackSpec)

/-- ITS FALSE NEIGHBOUR: 'it returns false'. Refute it at one input. -/
def mipBackWrong : ChangeSpec := { name := "mipBack", fn := fun _ => fun
  | [d1, d2, d3] => { results := [.lit (.bool false)], args := [d1, d2, d3] }
  | _ => none }
def MipBackWrongFalsely : Prop := mipBackRow.holds Try.pinned (OpenSpec.ofChange mipBackWrong)

/-- 'skylightlaw51.MipTells': WHATEVER THE INPUT: true; the input reads as it did. -/
def mipTellsSpec : ChangeSpec := { name := "mipTells", fn := fun _ => fun
  | [d1, d2, d3, d4, d5] => { results := [.lit (.bool true)], args := [d1, d2, d3, d4, d5] }
  | _ => none }
def mipTellsRow : OpenClaim := { program := "ytncfdkmhpnopiaa", sum := "d625e75178ba064eb68db0f509b39415e40c6d40b7e54c320c1c88db8e3f39e8", func := "skylight/skylightlaw51.MipTells", spec := "mipTells", unfollowed := true, recurses := true, apart := false }
def MipTellsSaid : Prop := mipTellsRow.holds Try.pinned (OpenSpec.ofChange mipTellsSpec)

/-- ITS FALSE NEIGHBOUR: 'it returns false'. Refute it at one input. -/
def mipTellsWrong : ChangeSpec := { name := "mipTells", fn := fun _ => fun
  | [d1, d2, d3, d4, d5] => { results := [.lit (.bool false)], args := [d1, d2, d3, d4, d5] }
  | _ => none }
def MipTellsWrongFalsely : Prop := mipTellsRow.holds Try.pinned (OpenSpec.ofChange mipTellsWrong)

/- THE SECOND FORM. 'bulk': how many values and letters a reading holds, each counted each time it is reached (what is shared counts as often as it is met; a slice's spare places count too). A statement '..UptoSaid' is the law's where the arguments, and the package variables that the reading takes, are together of bulk at most 1048576: NARROWER than '..Said'. Prove '..Said' where nothing that the law and all that it calls make is longer than what came in: it says more and counts as full. Else prove '..UptoSaid'. A law counts once. -/
mutual
def uptoBulk {H : Type} : DataW H → Nat
  | .lit (.string bytes) => bytes.length + 1
  | .lit _ => 1
  | .nil => 1
  | .ptr d => uptoBulk d + 1
  | .slice elems spare => uptoBulkAll elems + uptoBulkAll spare + 1
  | .agg parts => uptoBulkAll parts + 1
  | .iface _ d => uptoBulk d + 1
  | .map entries => uptoBulkEntries entries + 1
  | .held _ => 1
def uptoBulkAll {H : Type} : List (DataW H) → Nat
  | [] => 0
  | d :: r => uptoBulk d + uptoBulkAll r
def uptoBulkEntries {H : Type} : List (Lit × DataW H) → Nat
  | [] => 0
  | x :: r => uptoBulkEntry x + uptoBulkEntries r
def uptoBulkEntry {H : Type} : Lit × DataW H → Nat
  | (.string bytes, d) => bytes.length + uptoBulk d + 1
  | (_, d) => uptoBulk d + 1
 end
def uptoSmall : (H : Type) → List (DataW H) → Bool := fun _ ds => decide (uptoBulkAll ds ≤ 1048576)
def OpenSpec.upto (s : _root_.Go.ChangeSpec) : _root_.Go.OpenSpec := { _root_.Go.OpenSpec.ofChange s with cond := some uptoSmall }

/-- 'skylightlaw51.MipBetween', WHERE WHAT IT READS IS OF BULK AT MOST 1048576: true; the input reads as it did. -/
def mipBetweenUptoRow : OpenClaim := { program := "ytncfdkmhpnopiaa", sum := "d625e75178ba064eb68db0f509b39415e40c6d40b7e54c320c1c88db8e3f39e8", func := "skylight/skylightlaw51.MipBetween", spec := "mipBetween", unfollowed := true, recurses := true, apart := false, narrowed := true }
def MipBetweenUptoSaid : Prop := mipBetweenUptoRow.holds Try.pinned (OpenSpec.upto mipBetweenSpec)

/-- 'skylightlaw51.MipBack', WHERE WHAT IT READS IS OF BULK AT MOST 1048576: true; the input reads as it did. -/
def mipBackUptoRow : OpenClaim := { program := "ytncfdkmhpnopiaa", sum := "d625e75178ba064eb68db0f509b39415e40c6d40b7e54c320c1c88db8e3f39e8", func := "skylight/skylightlaw51.MipBack", spec := "mipBack", unfollowed := true, recurses := true, apart := false, narrowed := true }
def MipBackUptoSaid : Prop := mipBackUptoRow.holds Try.pinned (OpenSpec.upto mipBackSpec)

/-- 'skylightlaw51.MipTells', WHERE WHAT IT READS IS OF BULK AT MOST 1048576: true; the input reads as it did. -/
def mipTellsUptoRow : OpenClaim := { program := "ytncfdkmhpnopiaa", sum := "d625e75178ba064eb68db0f509b39415e40c6d40b7e54c320c1c88db8e3f39e8", func := "skylight/skylightlaw51.MipTells", spec := "mipTells", unfollowed := true, recurses := true, apart := false, narrowed := true }
def MipTellsUptoSaid : Prop := mipTellsUptoRow.holds Try.pinned (OpenSpec.upto mipTellsSpec)

end Rows
end Go.Proofs.Ytncfdkmhpnopiaa
