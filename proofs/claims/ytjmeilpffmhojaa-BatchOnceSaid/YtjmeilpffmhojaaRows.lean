/-
  No cell of these rows narrows 'for every input' (looked for: loops, veiled, ifaces, maps, wideKeys, modest, calm, conditions, laid).
  DERIVED. THE GIVEN ROWS OF THIS SEAT. 7 by the template 'for every input the law returns true; each argument reads behind the call as it read before'; 0 by the template 'total and deterministic' (their statements: YtjmeilpffmhojaaTotals.lean).
  GIVEN WITH THE SEED: the statements are not yours to turn. If you find one false, say at which input.
  Laid BY PROGRAM, IN A SANDBOX (cutbox-rows.mjs): the forced cells as the released guide's own fill.sh prints them over the translation 15465f89a17d6c14… (all of the seat's roots in one cut). By AI agents, Wed Nov 11 2026. No macro, syntax, notation, axiom, sorry.
-/
import Derived.Test.YtjmeilpffmhojaaChecked
import GoSem.Claim
import GoSem.ClaimJoined
import GoSem.ClaimMapViews
import Derived.JoinedTies
import Derived.KernelRfl
namespace Go.Proofs.Ytjmeilpffmhojaa
/- THE CELL 'sum', in the pinned program and in every row, IS THE sha256 OF THE DUMP (.gsa) THAT YtjmeilpffmhojaaProg.lean LOADS. Nothing in Lean hashes anything: it is a label: what it is worth is what the hold of that sum in a sandbox is worth. -/
noncomputable def Try.pinned : Pinned := { name := "ytjmeilpffmhojaa", sum := "15465f89a17d6c143e02bfd03d53c96b6eb30c14b49d111c523c9d58a471bf46", checked := Try.checked }
namespace Rows
def none {H : Type} : Left H := { results := [], args := [] }

/-- 'skylightlaw35.BatchPlays': WHATEVER THE INPUT: true; the input reads as it did. -/
def batchPlaysSpec : ChangeSpec := { name := "batchPlays", fn := fun _ => fun
  | [d1, d2, d3, d4, d5] => { results := [.lit (.bool true)], args := [d1, d2, d3, d4, d5] }
  | _ => none }
def batchPlaysRow : OpenClaim := { program := "ytjmeilpffmhojaa", sum := "15465f89a17d6c143e02bfd03d53c96b6eb30c14b49d111c523c9d58a471bf46", func := "skylight/skylightlaw35.BatchPlays", spec := "batchPlays", unfollowed := true, recurses := true, apart := false }
def BatchPlaysSaid : Prop := batchPlaysRow.holds Try.pinned (OpenSpec.ofChange batchPlaysSpec)

/-- ITS FALSE NEIGHBOUR: 'it returns false'. Refute it at one input. -/
def batchPlaysWrong : ChangeSpec := { name := "batchPlays", fn := fun _ => fun
  | [d1, d2, d3, d4, d5] => { results := [.lit (.bool false)], args := [d1, d2, d3, d4, d5] }
  | _ => none }
def BatchPlaysWrongFalsely : Prop := batchPlaysRow.holds Try.pinned (OpenSpec.ofChange batchPlaysWrong)

/-- 'skylightlaw35.BatchOnce': WHATEVER THE INPUT: true; the input reads as it did. -/
def batchOnceSpec : ChangeSpec := { name := "batchOnce", fn := fun _ => fun
  | [d1, d2, d3, d4] => { results := [.lit (.bool true)], args := [d1, d2, d3, d4] }
  | _ => none }
def batchOnceRow : OpenClaim := { program := "ytjmeilpffmhojaa", sum := "15465f89a17d6c143e02bfd03d53c96b6eb30c14b49d111c523c9d58a471bf46", func := "skylight/skylightlaw35.BatchOnce", spec := "batchOnce", unfollowed := true, recurses := true, apart := false }
def BatchOnceSaid : Prop := batchOnceRow.holds Try.pinned (OpenSpec.ofChange batchOnceSpec)

/-- ITS FALSE NEIGHBOUR: 'it returns false'. Refute it at one input. -/
def batchOnceWrong : ChangeSpec := { name := "batchOnce", fn := fun _ => fun
  | [d1, d2, d3, d4] => { results := [.lit (.bool false)], args := [d1, d2, d3, d4] }
  | _ => none }
def BatchOnceWrongFalsely : Prop := batchOnceRow.holds Try.pinned (OpenSpec.ofChange batchOnceWrong)

/-- 'skylightlaw51.MipBetween': WHATEVER THE INPUT: true; the input reads as it did. -/
def mipBetweenSpec : ChangeSpec := { name := "mipBetween", fn := fun _ => fun
  | [d1, d2] => { results := [.lit (.bool true)], args := [d1, d2] }
  | _ => none }
def mipBetweenRow : OpenClaim := { program := "ytjmeilpffmhojaa", sum := "15465f89a17d6c143e02bfd03d53c96b6eb30c14b49d111c523c9d58a471bf46", func := "skylight/skylightlaw51.MipBetween", spec := "mipBetween", unfollowed := true, recurses := true, apart := false }
def MipBetweenSaid : Prop := mipBetweenRow.holds Try.pinned (OpenSpec.ofChange mipBetweenSpec)

/-- ITS FALSE NEIGHBOUR: 'it returns false'. Refute it at one input. -/
def mipBetweenWrong : ChangeSpec := { name := "mipBetween", fn := fun _ => fun
  | [d1, d2] => { results := [.lit (.bool false)], args := [d1, d2] }
  | _ => none }
def MipBetweenWrongFalsely : Prop := mipBetweenRow.holds Try.pinned (OpenSpec.ofChange mipBetweenWrong)

/-- 'skylightlaw51.MipBack': WHATEVER THE INPUT: true; the input reads as it did. -/
def mipBackSpec : ChangeSpec := { name := "mipBack", fn := fun _ => fun
  | [d1, d2, d3] => { results := [.lit (.bool true)], args := [d1, d2, d3] }
  | _ => none }
def mipBackRow : OpenClaim := { program := "ytjmeilpffmhojaa", sum := "15465f89a17d6c143e02bfd03d53c96b6eb30c14b49d111c523c9d58a471bf46", func := "skylight/skylightlaw51.MipBack", spec := "mipBack", unfollowed := true, recurses := true, apart := false }
def MipBackSaid : Prop := mipBackRow.holds Try.pinned (OpenSpec.ofChange mipBackSpec)

/-- ITS FALSE NEIGHBOUR: 'it returns false'. Refute it at one input. -/
def mipBackWrong : ChangeSpec := { name := "mipBack", fn := fun _ => fun
  | [d1, d2, d3] => { results := [.lit (.bool false)], args := [d1, d2, d3] }
  | _ => none }
def MipBackWrongFalsely : Prop := mipBackRow.holds Try.pinned (OpenSpec.ofChange mipBackWrong)

/-- 'skylightlaw51.MipTells': WHATEVER THE INPUT: true; the input reads as it did. -/
def mipTellsSpec : ChangeSpec := { name := "mipTells", fn := fun _ => fun
  | [d1, d2, d3, d4, d5] => { results := [.lit (.bool true)], args := [d1, d2, d3, d4, d5] }
  | _ => none }
def mipTellsRow : OpenClaim := { program := "ytjmeilpffmhojaa", sum := "15465f89a17d6c143e02bfd03d53c96b6eb30c14b49d111c523c9d58a471bf46", func := "skylight/skylightlaw51.MipTells", spec := "mipTells", unfollowed := true, recurses := true, apart := false }
def MipTellsSaid : Prop := mipTellsRow.holds Try.pinned (OpenSpec.ofChange mipTellsSpec)

/-- ITS FALSE NEIGHBOUR: 'it returns false'. Refute it at one input. -/
def mipTellsWrong : ChangeSpec := { name := "mipTells", fn := fun _ => fun
  | [d1, d2, d3, d4, d5] => { results := [.lit (.bool false)], args := [d1, d2, d3, d4, d5] }
  | _ => none }
def MipTellsWrongFalsely : Prop := mipTellsRow.holds Try.pinned (OpenSpec.ofChange mipTellsWrong)

/-- 'skylightlaw49.DiffTells': WHATEVER THE INPUT: true; the input reads as it did. -/
def diffTellsSpec : ChangeSpec := { name := "diffTells", fn := fun _ => fun
  | [d1, d2, d3, d4, d5] => { results := [.lit (.bool true)], args := [d1, d2, d3, d4, d5] }
  | _ => none }
def diffTellsRow : OpenClaim := { program := "ytjmeilpffmhojaa", sum := "15465f89a17d6c143e02bfd03d53c96b6eb30c14b49d111c523c9d58a471bf46", func := "skylight/skylightlaw49.DiffTells", spec := "diffTells", unfollowed := true, recurses := true, apart := false }
def DiffTellsSaid : Prop := diffTellsRow.holds Try.pinned (OpenSpec.ofChange diffTellsSpec)

/-- ITS FALSE NEIGHBOUR: 'it returns false'. Refute it at one input. -/
def diffTellsWrong : ChangeSpec := { name := "diffTells", fn := fun _ => fun
  | [d1, d2, d3, d4, d5] => { results := [.lit (.bool false)], args := [d1, d2, d3, d4, d5] }
  | _ => none }
def DiffTellsWrongFalsely : Prop := diffTellsRow.holds Try.pinned (OpenSpec.ofChange diffTellsWrong)

/-- 'skylightlaw49.DiffThree': WHATEVER THE INPUT: true; the input reads as it did. -/
def diffThreeSpec : ChangeSpec := { name := "diffThree", fn := fun _ => fun
  | [d1, d2, d3, d4] => { results := [.lit (.bool true)], args := [d1, d2, d3, d4] }
  | _ => none }
def diffThreeRow : OpenClaim := { program := "ytjmeilpffmhojaa", sum := "15465f89a17d6c143e02bfd03d53c96b6eb30c14b49d111c523c9d58a471bf46", func := "skylight/skylightlaw49.DiffThree", spec := "diffThree", unfollowed := true, recurses := true, apart := false }
def DiffThreeSaid : Prop := diffThreeRow.holds Try.pinned (OpenSpec.ofChange diffThreeSpec)

/-- ITS FALSE NEIGHBOUR: 'it returns false'. Refute it at one input. -/
def diffThreeWrong : ChangeSpec := { name := "diffThree", fn := fun _ => fun
  | [d1, d2, d3, d4] => { results := [.lit (.bool false)], args := [d1, d2, d3, d4] }
  | _ => none }
def DiffThreeWrongFalsely : Prop := diffThreeRow.holds Try.pinned (OpenSpec.ofChange diffThreeWrong)

/- THE SECOND FORM. 'bulk': how many values and letters a reading holds, each counted each time it is reached (what is shared counts as often as it is met; a slice's spare places count too). A statement '..UptoSaid' is the law's where the arguments, and the package variables that the reading takes, are together of bulk at most 1048576: NARROWER than '..Said'. Prove '..Said' where nothing that the law and all that it calls make is longer than what came in: it says more and counts as full. Else prove '..UptoSaid'. A law counts once. -/
mutual
def uptoBulk {H : Type} : DataW H → Nat
  | .lit (.string bytes) => bytes.length + 1
  | .lit _ => 1
  | .nil => 1
  | .ptr d => uptoBulk d + 1
  | .slice elems spare => uptoBulkAll elems + uptoBulkAll spare + 1
  | .agg parts => uptoBulkAll parts + 1
  | .iface _ d => uptoBulk d + 1
  | .map entries => uptoBulkEntries entries + 1
  | .held _ => 1
def uptoBulkAll {H : Type} : List (DataW H) → Nat
  | [] => 0
  | d :: r => uptoBulk d + uptoBulkAll r
def uptoBulkEntries {H : Type} : List (Lit × DataW H) → Nat
  | [] => 0
  | x :: r => uptoBulkEntry x + uptoBulkEntries r
def uptoBulkEntry {H : Type} : Lit × DataW H → Nat
  | (.string bytes, d) => bytes.length + uptoBulk d + 1
  | (_, d) => uptoBulk d + 1
 end
def uptoSmall : (H : Type) → List (DataW H) → Bool := fun _ ds => decide (uptoBulkAll ds ≤ 1048576)
def OpenSpec.upto (s : _root_.Go.ChangeSpec) : _root_.Go.OpenSpec := { _root_.Go.OpenSpec.ofChange s with cond := some uptoSmall }

/-- 'skylightlaw35.BatchPlays', WHERE WHAT IT READS IS OF BULK AT MOST 1048576: true; the input reads as it did. -/
def batchPlaysUptoRow : OpenClaim := { program := "ytjmeilpffmhojaa", sum := "15465f89a17d6c143e02bfd03d53c96b6eb30c14b49d111c523c9d58a471bf46", func := "skylight/skylightlaw35.BatchPlays", spec := "batchPlays", unfollowed := true, recurses := true, apart := false, narrowed := true }
def BatchPlaysUptoSaid : Prop := batchPlaysUptoRow.holds Try.pinned (OpenSpec.upto batchPlaysSpec)

/-- 'skylightlaw35.BatchOnce', WHERE WHAT IT READS IS OF BULK AT MOST 1048576: true; the input reads as it did. -/
def batchOnceUptoRow : OpenClaim := { program := "ytjmeilpffmhojaa", sum := "15465f89a17d6c143e02bfd03d53c96b6eb30c14b49d111c523c9d58a471bf46", func := "skylight/skylightlaw35.BatchOnce", spec := "batchOnce", unfollowed := true, recurses := true, apart := false, narrowed := true }
def BatchOnceUptoSaid : Prop := batchOnceUptoRow.holds Try.pinned (OpenSpec.upto batchOnceSpec)

/-- 'skylightlaw51.MipBetween', WHERE WHAT IT READS IS OF BULK AT MOST 1048576: true; the input reads as it did. -/
def mipBetweenUptoRow : OpenClaim := { program := "ytjmeilpffmhojaa", sum := "15465f89a17d6c143e02bfd03d53c96b6eb30c14b49d111c523c9d58a471bf46", func := "skylight/skylightlaw51.MipBetween", spec := "mipBetween", unfollowed := true, recurses := true, apart := false, narrowed := true }
def MipBetweenUptoSaid : Prop := mipBetweenUptoRow.holds Try.pinned (OpenSpec.upto mipBetweenSpec)

/-- 'skylightlaw51.MipBack', WHERE WHAT IT READS IS OF BULK AT MOST 1048576: true; the input reads as it did. -/
def mipBackUptoRow : OpenClaim := { program := "ytjmeilpffmhojaa", sum := "15465f89a17d6c143e02bfd03d53c96b6eb30c14b49d111c523c9d58a471bf46", func := "skylight/skylightlaw51.MipBack", spec := "mipBack", unfollowed := true, recurses := true, apart := false, narrowed := true }
def MipBackUptoSaid : Prop := mipBackUptoRow.holds Try.pinned (OpenSpec.upto mipBackSpec)

/-- 'skylightlaw51.MipTells', WHERE WHAT IT READS IS OF BULK AT MOST 1048576: true; the input reads as it did. -/
def mipTellsUptoRow : OpenClaim := { program := "ytjmeilpffmhojaa", sum := "15465f89a17d6c143e02bfd03d53c96b6eb30c14b49d111c523c9d58a471bf46", func := "skylight/skylightlaw51.MipTells", spec := "mipTells", unfollowed := true, recurses := true, apart := false, narrowed := true }
def MipTellsUptoSaid : Prop := mipTellsUptoRow.holds Try.pinned (OpenSpec.upto mipTellsSpec)

/-- 'skylightlaw49.DiffTells', WHERE WHAT IT READS IS OF BULK AT MOST 1048576: true; the input reads as it did. -/
def diffTellsUptoRow : OpenClaim := { program := "ytjmeilpffmhojaa", sum := "15465f89a17d6c143e02bfd03d53c96b6eb30c14b49d111c523c9d58a471bf46", func := "skylight/skylightlaw49.DiffTells", spec := "diffTells", unfollowed := true, recurses := true, apart := false, narrowed := true }
def DiffTellsUptoSaid : Prop := diffTellsUptoRow.holds Try.pinned (OpenSpec.upto diffTellsSpec)

/-- 'skylightlaw49.DiffThree', WHERE WHAT IT READS IS OF BULK AT MOST 1048576: true; the input reads as it did. -/
def diffThreeUptoRow : OpenClaim := { program := "ytjmeilpffmhojaa", sum := "15465f89a17d6c143e02bfd03d53c96b6eb30c14b49d111c523c9d58a471bf46", func := "skylight/skylightlaw49.DiffThree", spec := "diffThree", unfollowed := true, recurses := true, apart := false, narrowed := true }
def DiffThreeUptoSaid : Prop := diffThreeUptoRow.holds Try.pinned (OpenSpec.upto diffThreeSpec)

end Rows
end Go.Proofs.Ytjmeilpffmhojaa
