/-
  No cell of these rows narrows 'for every input' (looked for: loops, veiled, ifaces, maps, wideKeys, modest, calm, conditions, laid).
  DERIVED. THE GIVEN ROWS OF THIS SEAT. 8 by the template 'for every input the law returns true; each argument reads behind the call as it read before'; 0 by the template 'total and deterministic' (their statements: YtaepdefnomcllaaTotals.lean).
  GIVEN WITH THE SEED: the statements are not yours to turn. If you find one false, say at which input.
  Laid BY PROGRAM, IN A SANDBOX (cutbox-rows.mjs): the forced cells as the released guide's own fill.sh prints them over the translation a6d8542f3aa3e17c… (all of the seat's roots in one cut). By AI agents, Wed Nov 11 2026. No macro, syntax, notation, axiom, sorry.
-/
import Derived.Test.YtaepdefnomcllaaChecked
import GoSem.Claim
import GoSem.ClaimJoined
import GoSem.ClaimMapViews
import Derived.JoinedTies
import Derived.KernelRfl
namespace Go.Proofs.Ytaepdefnomcllaa
/- THE CELL 'sum', in the pinned program and in every row, IS THE sha256 OF THE DUMP (.gsa) THAT YtaepdefnomcllaaProg.lean LOADS. Nothing in Lean hashes anything: it is a label: what it is worth is what the hold of that sum in a sandbox is worth. -/
noncomputable def Try.pinned : Pinned := { name := "ytaepdefnomcllaa", sum := "a6d8542f3aa3e17c8924a34f350e8424208ff6e460fcfca2062954ed4ee44d7e", checked := Try.checked }
namespace Rows
def none {H : Type} : Left H := { results := [], args := [] }

/-- 'skylightlaw31.LayoutTells': WHATEVER THE INPUT: true; the input reads as it did. -/
def layoutTellsSpec : ChangeSpec := { name := "layoutTells", fn := fun _ => fun
  | [d1, d2, d3, d4] => { results := [.lit (.bool true)], args := [d1, d2, d3, d4] }
  | _ => none }
def layoutTellsRow : OpenClaim := { program := "ytaepdefnomcllaa", sum := "a6d8542f3aa3e17c8924a34f350e8424208ff6e460fcfca2062954ed4ee44d7e", func := "skylight/skylightlaw31.LayoutTells", spec := "layoutTells", apart := false }
def LayoutTellsSaid : Prop := layoutTellsRow.holds Try.pinned (OpenSpec.ofChange layoutTellsSpec)

/-- ITS FALSE NEIGHBOUR: 'it returns false'. Refute it at one input. -/
def layoutTellsWrong : ChangeSpec := { name := "layoutTells", fn := fun _ => fun
  | [d1, d2, d3, d4] => { results := [.lit (.bool false)], args := [d1, d2, d3, d4] }
  | _ => none }
def LayoutTellsWrongFalsely : Prop := layoutTellsRow.holds Try.pinned (OpenSpec.ofChange layoutTellsWrong)

/-- 'skylightlaw31.LayoutOnce': WHATEVER THE INPUT: true; the input reads as it did. -/
def layoutOnceSpec : ChangeSpec := { name := "layoutOnce", fn := fun _ => fun
  | [d1, d2, d3] => { results := [.lit (.bool true)], args := [d1, d2, d3] }
  | _ => none }
def layoutOnceRow : OpenClaim := { program := "ytaepdefnomcllaa", sum := "a6d8542f3aa3e17c8924a34f350e8424208ff6e460fcfca2062954ed4ee44d7e", func := "skylight/skylightlaw31.LayoutOnce", spec := "layoutOnce", apart := false }
def LayoutOnceSaid : Prop := layoutOnceRow.holds Try.pinned (OpenSpec.ofChange layoutOnceSpec)

/-- ITS FALSE NEIGHBOUR: 'it returns false'. Refute it at one input. -/
def layoutOnceWrong : ChangeSpec := { name := "layoutOnce", fn := fun _ => fun
  | [d1, d2, d3] => { results := [.lit (.bool false)], args := [d1, d2, d3] }
  | _ => none }
def LayoutOnceWrongFalsely : Prop := layoutOnceRow.holds Try.pinned (OpenSpec.ofChange layoutOnceWrong)

/-- 'skylightlaw30.CellPlays': WHATEVER THE INPUT: true; the input reads as it did. -/
def cellPlaysSpec : ChangeSpec := { name := "cellPlays", fn := fun _ => fun
  | [d1, d2, d3, d4] => { results := [.lit (.bool true)], args := [d1, d2, d3, d4] }
  | _ => none }
def cellPlaysRow : OpenClaim := { program := "ytaepdefnomcllaa", sum := "a6d8542f3aa3e17c8924a34f350e8424208ff6e460fcfca2062954ed4ee44d7e", func := "skylight/skylightlaw30.CellPlays", spec := "cellPlays", apart := false }
def CellPlaysSaid : Prop := cellPlaysRow.holds Try.pinned (OpenSpec.ofChange cellPlaysSpec)

/-- ITS FALSE NEIGHBOUR: 'it returns false'. Refute it at one input. -/
def cellPlaysWrong : ChangeSpec := { name := "cellPlays", fn := fun _ => fun
  | [d1, d2, d3, d4] => { results := [.lit (.bool false)], args := [d1, d2, d3, d4] }
  | _ => none }
def CellPlaysWrongFalsely : Prop := cellPlaysRow.holds Try.pinned (OpenSpec.ofChange cellPlaysWrong)

/-- 'skylightlaw30.CellCounts': WHATEVER THE INPUT: true; the input reads as it did. -/
def cellCountsSpec : ChangeSpec := { name := "cellCounts", fn := fun _ => fun
  | [d] => { results := [.lit (.bool true)], args := [d] }
  | _ => none }
def cellCountsRow : OpenClaim := { program := "ytaepdefnomcllaa", sum := "a6d8542f3aa3e17c8924a34f350e8424208ff6e460fcfca2062954ed4ee44d7e", func := "skylight/skylightlaw30.CellCounts", spec := "cellCounts", apart := false }
def CellCountsSaid : Prop := cellCountsRow.holds Try.pinned (OpenSpec.ofChange cellCountsSpec)

/-- ITS FALSE NEIGHBOUR: 'it returns false'. Refute it at one input. -/
def cellCountsWrong : ChangeSpec := { name := "cellCounts", fn := fun _ => fun
  | [d] => { results := [.lit (.bool false)], args := [d] }
  | _ => none }
def CellCountsWrongFalsely : Prop := cellCountsRow.holds Try.pinned (OpenSpec.ofChange cellCountsWrong)

/-- 'skylightlaw31.LayoutFilm': WHATEVER THE INPUT: true; the input reads as it did. -/
def layoutFilmSpec : ChangeSpec := { name := "layoutFilm", fn := fun _ => fun
  | [d1, d2, d3] => { results := [.lit (.bool true)], args := [d1, d2, d3] }
  | _ => none }
def layoutFilmRow : OpenClaim := { program := "ytaepdefnomcllaa", sum := "a6d8542f3aa3e17c8924a34f350e8424208ff6e460fcfca2062954ed4ee44d7e", func := "skylight/skylightlaw31.LayoutFilm", spec := "layoutFilm", apart := false }
def LayoutFilmSaid : Prop := layoutFilmRow.holds Try.pinned (OpenSpec.ofChange layoutFilmSpec)

/-- ITS FALSE NEIGHBOUR: 'it returns false'. Refute it at one input. -/
def layoutFilmWrong : ChangeSpec := { name := "layoutFilm", fn := fun _ => fun
  | [d1, d2, d3] => { results := [.lit (.bool false)], args := [d1, d2, d3] }
  | _ => none }
def LayoutFilmWrongFalsely : Prop := layoutFilmRow.holds Try.pinned (OpenSpec.ofChange layoutFilmWrong)

/-- 'skylightlaw46.MortonBack': WHATEVER THE INPUT: true; the input reads as it did. -/
def mortonBackSpec : ChangeSpec := { name := "mortonBack", fn := fun _ => fun
  | [d1, d2, d3, d4, d5] => { results := [.lit (.bool true)], args := [d1, d2, d3, d4, d5] }
  | _ => none }
def mortonBackRow : OpenClaim := { program := "ytaepdefnomcllaa", sum := "a6d8542f3aa3e17c8924a34f350e8424208ff6e460fcfca2062954ed4ee44d7e", func := "skylight/skylightlaw46.MortonBack", spec := "mortonBack", unfollowed := true, recurses := true, apart := false }
def MortonBackSaid : Prop := mortonBackRow.holds Try.pinned (OpenSpec.ofChange mortonBackSpec)

/-- ITS FALSE NEIGHBOUR: 'it returns false'. Refute it at one input. -/
def mortonBackWrong : ChangeSpec := { name := "mortonBack", fn := fun _ => fun
  | [d1, d2, d3, d4, d5] => { results := [.lit (.bool false)], args := [d1, d2, d3, d4, d5] }
  | _ => none }
def MortonBackWrongFalsely : Prop := mortonBackRow.holds Try.pinned (OpenSpec.ofChange mortonBackWrong)

/-- 'skylightlaw46.MortonTells': WHATEVER THE INPUT: true; the input reads as it did. -/
def mortonTellsSpec : ChangeSpec := { name := "mortonTells", fn := fun _ => fun
  | [d1, d2, d3, d4, d5, d6] => { results := [.lit (.bool true)], args := [d1, d2, d3, d4, d5, d6] }
  | _ => none }
def mortonTellsRow : OpenClaim := { program := "ytaepdefnomcllaa", sum := "a6d8542f3aa3e17c8924a34f350e8424208ff6e460fcfca2062954ed4ee44d7e", func := "skylight/skylightlaw46.MortonTells", spec := "mortonTells", unfollowed := true, recurses := true, apart := false }
def MortonTellsSaid : Prop := mortonTellsRow.holds Try.pinned (OpenSpec.ofChange mortonTellsSpec)

/-- ITS FALSE NEIGHBOUR: 'it returns false'. Refute it at one input. -/
def mortonTellsWrong : ChangeSpec := { name := "mortonTells", fn := fun _ => fun
  | [d1, d2, d3, d4, d5, d6] => { results := [.lit (.bool false)], args := [d1, d2, d3, d4, d5, d6] }
  | _ => none }
def MortonTellsWrongFalsely : Prop := mortonTellsRow.holds Try.pinned (OpenSpec.ofChange mortonTellsWrong)

/-- 'skylightlaw46.MortonOnce': WHATEVER THE INPUT: true; the input reads as it did. -/
def mortonOnceSpec : ChangeSpec := { name := "mortonOnce", fn := fun _ => fun
  | [d1, d2] => { results := [.lit (.bool true)], args := [d1, d2] }
  | _ => none }
def mortonOnceRow : OpenClaim := { program := "ytaepdefnomcllaa", sum := "a6d8542f3aa3e17c8924a34f350e8424208ff6e460fcfca2062954ed4ee44d7e", func := "skylight/skylightlaw46.MortonOnce", spec := "mortonOnce", unfollowed := true, recurses := true, apart := false }
def MortonOnceSaid : Prop := mortonOnceRow.holds Try.pinned (OpenSpec.ofChange mortonOnceSpec)

/-- ITS FALSE NEIGHBOUR: 'it returns false'. Refute it at one input. -/
def mortonOnceWrong : ChangeSpec := { name := "mortonOnce", fn := fun _ => fun
  | [d1, d2] => { results := [.lit (.bool false)], args := [d1, d2] }
  | _ => none }
def MortonOnceWrongFalsely : Prop := mortonOnceRow.holds Try.pinned (OpenSpec.ofChange mortonOnceWrong)

/- THE SECOND FORM. 'bulk': how many values and letters a reading holds, each counted each time it is reached (what is shared counts as often as it is met; a slice's spare places count too). A statement '..UptoSaid' is the law's where the arguments, and the package variables that the reading takes, are together of bulk at most 1048576: NARROWER than '..Said'. Prove '..Said' where nothing that the law and all that it calls make is longer than what came in: it says more and counts as full. Else prove '..UptoSaid'. A law counts once. -/
mutual
def uptoBulk {H : Type} : DataW H → Nat
  | .lit (.string bytes) => bytes.length + 1
  | .lit _ => 1
  | .nil => 1
  | .ptr d => uptoBulk d + 1
  | .slice elems spare => uptoBulkAll elems + uptoBulkAll spare + 1
  | .agg parts => uptoBulkAll parts + 1
  | .iface _ d => uptoBulk d + 1
  | .map entries => uptoBulkEntries entries + 1
  | .held _ => 1
def uptoBulkAll {H : Type} : List (DataW H) → Nat
  | [] => 0
  | d :: r => uptoBulk d + uptoBulkAll r
def uptoBulkEntries {H : Type} : List (Lit × DataW H) → Nat
  | [] => 0
  | x :: r => uptoBulkEntry x + uptoBulkEntries r
def uptoBulkEntry {H : Type} : Lit × DataW H → Nat
  | (.string bytes, d) => bytes.length + uptoBulk d + 1
  | (_, d) => uptoBulk d + 1
 end
def uptoSmall : (H : Type) → List (DataW H) → Bool := fun _ ds => decide (uptoBulkAll ds ≤ 1048576)
def OpenSpec.upto (s : _root_.Go.ChangeSpec) : _root_.Go.OpenSpec := { _root_.Go.OpenSpec.ofChange s with cond := some uptoSmall }

/-- 'skylightlaw31.LayoutTells', WHERE WHAT IT READS IS OF BULK AT MOST 1048576: true; the input reads as it did. -/
def layoutTellsUptoRow : OpenClaim := { program := "ytaepdefnomcllaa", sum := "a6d8542f3aa3e17c8924a34f350e8424208ff6e460fcfca2062954ed4ee44d7e", func := "skylight/skylightlaw31.LayoutTells", spec := "layoutTells", apart := false, narrowed := true }
def LayoutTellsUptoSaid : Prop := layoutTellsUptoRow.holds Try.pinned (OpenSpec.upto layoutTellsSpec)

/-- 'skylightlaw31.LayoutOnce', WHERE WHAT IT READS IS OF BULK AT MOST 1048576: true; the input reads as it did. -/
def layoutOnceUptoRow : OpenClaim := { program := "ytaepdefnomcllaa", sum := "a6d8542f3aa3e17c8924a34f350e8424208ff6e460fcfca2062954ed4ee44d7e", func := "skylight/skylightlaw31.LayoutOnce", spec := "layoutOnce", apart := false, narrowed := true }
def LayoutOnceUptoSaid : Prop := layoutOnceUptoRow.holds Try.pinned (OpenSpec.upto layoutOnceSpec)

/-- 'skylightlaw30.CellPlays', WHERE WHAT IT READS IS OF BULK AT MOST 1048576: true; the input reads as it did. -/
def cellPlaysUptoRow : OpenClaim := { program := "ytaepdefnomcllaa", sum := "a6d8542f3aa3e17c8924a34f350e8424208ff6e460fcfca2062954ed4ee44d7e", func := "skylight/skylightlaw30.CellPlays", spec := "cellPlays", apart := false, narrowed := true }
def CellPlaysUptoSaid : Prop := cellPlaysUptoRow.holds Try.pinned (OpenSpec.upto cellPlaysSpec)

/-- 'skylightlaw30.CellCounts', WHERE WHAT IT READS IS OF BULK AT MOST 1048576: true; the input reads as it did. -/
def cellCountsUptoRow : OpenClaim := { program := "ytaepdefnomcllaa", sum := "a6d8542f3aa3e17c8924a34f350e8424208ff6e460fcfca2062954ed4ee44d7e", func := "skylight/skylightlaw30.CellCounts", spec := "cellCounts", apart := false, narrowed := true }
def CellCountsUptoSaid : Prop := cellCountsUptoRow.holds Try.pinned (OpenSpec.upto cellCountsSpec)

/-- 'skylightlaw31.LayoutFilm', WHERE WHAT IT READS IS OF BULK AT MOST 1048576: true; the input reads as it did. -/
def layoutFilmUptoRow : OpenClaim := { program := "ytaepdefnomcllaa", sum := "a6d8542f3aa3e17c8924a34f350e8424208ff6e460fcfca2062954ed4ee44d7e", func := "skylight/skylightlaw31.LayoutFilm", spec := "layoutFilm", apart := false, narrowed := true }
def LayoutFilmUptoSaid : Prop := layoutFilmUptoRow.holds Try.pinned (OpenSpec.upto layoutFilmSpec)

/-- 'skylightlaw46.MortonBack', WHERE WHAT IT READS IS OF BULK AT MOST 1048576: true; the input reads as it did. -/
def mortonBackUptoRow : OpenClaim := { program := "ytaepdefnomcllaa", sum := "a6d8542f3aa3e17c8924a34f350e8424208ff6e460fcfca2062954ed4ee44d7e", func := "skylight/skylightlaw46.MortonBack", spec := "mortonBack", unfollowed := true, recurses := true, apart := false, narrowed := true }
def MortonBackUptoSaid : Prop := mortonBackUptoRow.holds Try.pinned (OpenSpec.upto mortonBackSpec)

/-- 'skylightlaw46.MortonTells', WHERE WHAT IT READS IS OF BULK AT MOST 1048576: true; the input reads as it did. -/
def mortonTellsUptoRow : OpenClaim := { program := "ytaepdefnomcllaa", sum := "a6d8542f3aa3e17c8924a34f350e8424208ff6e460fcfca2062954ed4ee44d7e", func := "skylight/skylightlaw46.MortonTells", spec := "mortonTells", unfollowed := true, recurses := true, apart := false, narrowed := true }
def MortonTellsUptoSaid : Prop := mortonTellsUptoRow.holds Try.pinned (OpenSpec.upto mortonTellsSpec)

/-- 'skylightlaw46.MortonOnce', WHERE WHAT IT READS IS OF BULK AT MOST 1048576: true; the input reads as it did. -/
def mortonOnceUptoRow : OpenClaim := { program := "ytaepdefnomcllaa", sum := "a6d8542f3aa3e17c8924a34f350e8424208ff6e460fcfca2062954ed4ee44d7e", func := "skylight/skylightlaw46.MortonOnce", spec := "mortonOnce", unfollowed := true, recurses := true, apart := false, narrowed := true }
def MortonOnceUptoSaid : Prop := mortonOnceUptoRow.holds Try.pinned (OpenSpec.upto mortonOnceSpec)

end Rows
end Go.Proofs.Ytaepdefnomcllaa
