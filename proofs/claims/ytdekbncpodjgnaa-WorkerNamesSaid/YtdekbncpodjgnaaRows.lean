/-
  No cell of these rows narrows 'for every input' (looked for: loops, veiled, ifaces, maps, wideKeys, modest, calm, conditions, laid).
  DERIVED. THE GIVEN ROWS OF THIS SEAT. 6 by the template 'for every input the law returns true; each argument reads behind the call as it read before'; 0 by the template 'total and deterministic' (their statements: YtdekbncpodjgnaaTotals.lean).
  GIVEN WITH THE SEED: the statements are not yours to turn. If you find one false, say at which input.
  Laid BY PROGRAM, IN A SANDBOX (cutbox-rows.mjs): the forced cells as the released guide's own fill.sh prints them over the translation 327bf780f541c131… (all of the seat's roots in one cut). By AI agents, Wed Nov 11 2026. No macro, syntax, notation, axiom, sorry.
-/
import Derived.Test.YtdekbncpodjgnaaChecked
import GoSem.Claim
import GoSem.ClaimJoined
import GoSem.ClaimMapViews
import Derived.JoinedTies
import Derived.KernelRfl
namespace Go.Proofs.Ytdekbncpodjgnaa
/- THE CELL 'sum', in the pinned program and in every row, IS THE sha256 OF THE DUMP (.gsa) THAT YtdekbncpodjgnaaProg.lean LOADS. Nothing in Lean hashes anything: it is a label: what it is worth is what the hold of that sum in a sandbox is worth. -/
noncomputable def Try.pinned : Pinned := { name := "ytdekbncpodjgnaa", sum := "327bf780f541c131f3d47b654462dfc9c1b2486959f2a27365ace66dd9e91d57", checked := Try.checked }
namespace Rows
def none {H : Type} : Left H := { results := [], args := [] }

/-- 'fringelaw19.WorkerParts': WHATEVER THE INPUT: true; the input reads as it did. -/
def workerPartsSpec : ChangeSpec := { name := "workerParts", fn := fun _ => fun
  | [d1, d2, d3] => { results := [.lit (.bool true)], args := [d1, d2, d3] }
  | _ => none }
def workerPartsRow : OpenClaim := { program := "ytdekbncpodjgnaa", sum := "327bf780f541c131f3d47b654462dfc9c1b2486959f2a27365ace66dd9e91d57", func := "fringe/fringelaw19.WorkerParts", spec := "workerParts", apart := false }
def WorkerPartsSaid : Prop := workerPartsRow.holds Try.pinned (OpenSpec.ofChange workerPartsSpec)

/-- ITS FALSE NEIGHBOUR: 'it returns false'. Refute it at one input. -/
def workerPartsWrong : ChangeSpec := { name := "workerParts", fn := fun _ => fun
  | [d1, d2, d3] => { results := [.lit (.bool false)], args := [d1, d2, d3] }
  | _ => none }
def WorkerPartsWrongFalsely : Prop := workerPartsRow.holds Try.pinned (OpenSpec.ofChange workerPartsWrong)

/-- 'fringelaw19.WorkerRuns': WHATEVER THE INPUT: true; the input reads as it did. -/
def workerRunsSpec : ChangeSpec := { name := "workerRuns", fn := fun _ => fun
  | [d1, d2, d3, d4, d5] => { results := [.lit (.bool true)], args := [d1, d2, d3, d4, d5] }
  | _ => none }
def workerRunsRow : OpenClaim := { program := "ytdekbncpodjgnaa", sum := "327bf780f541c131f3d47b654462dfc9c1b2486959f2a27365ace66dd9e91d57", func := "fringe/fringelaw19.WorkerRuns", spec := "workerRuns", unfollowed := true, recurses := true, apart := false }
def WorkerRunsSaid : Prop := workerRunsRow.holds Try.pinned (OpenSpec.ofChange workerRunsSpec)

/-- ITS FALSE NEIGHBOUR: 'it returns false'. Refute it at one input. -/
def workerRunsWrong : ChangeSpec := { name := "workerRuns", fn := fun _ => fun
  | [d1, d2, d3, d4, d5] => { results := [.lit (.bool false)], args := [d1, d2, d3, d4, d5] }
  | _ => none }
def WorkerRunsWrongFalsely : Prop := workerRunsRow.holds Try.pinned (OpenSpec.ofChange workerRunsWrong)

/-- 'fringelaw19.WorkerSame': WHATEVER THE INPUT: true; the input reads as it did. -/
def workerSameSpec : ChangeSpec := { name := "workerSame", fn := fun _ => fun
  | [d1, d2, d3] => { results := [.lit (.bool true)], args := [d1, d2, d3] }
  | _ => none }
def workerSameRow : OpenClaim := { program := "ytdekbncpodjgnaa", sum := "327bf780f541c131f3d47b654462dfc9c1b2486959f2a27365ace66dd9e91d57", func := "fringe/fringelaw19.WorkerSame", spec := "workerSame", unfollowed := true, recurses := true, apart := false }
def WorkerSameSaid : Prop := workerSameRow.holds Try.pinned (OpenSpec.ofChange workerSameSpec)

/-- ITS FALSE NEIGHBOUR: 'it returns false'. Refute it at one input. -/
def workerSameWrong : ChangeSpec := { name := "workerSame", fn := fun _ => fun
  | [d1, d2, d3] => { results := [.lit (.bool false)], args := [d1, d2, d3] }
  | _ => none }
def WorkerSameWrongFalsely : Prop := workerSameRow.holds Try.pinned (OpenSpec.ofChange workerSameWrong)

/-- 'fringelaw19.WorkerNames': WHATEVER THE INPUT: true; the input reads as it did. -/
def workerNamesSpec : ChangeSpec := { name := "workerNames", fn := fun _ => fun
  | [] => { results := [.lit (.bool true)], args := [] }
  | _ => none }
def workerNamesRow : OpenClaim := { program := "ytdekbncpodjgnaa", sum := "327bf780f541c131f3d47b654462dfc9c1b2486959f2a27365ace66dd9e91d57", func := "fringe/fringelaw19.WorkerNames", spec := "workerNames", unfollowed := true, recurses := true, apart := false }
def WorkerNamesSaid : Prop := workerNamesRow.holds Try.pinned (OpenSpec.ofChange workerNamesSpec)

/-- ITS FALSE NEIGHBOUR: 'it returns false'. Refute it at one input. -/
def workerNamesWrong : ChangeSpec := { name := "workerNames", fn := fun _ => fun
  | [] => { results := [.lit (.bool false)], args := [] }
  | _ => none }
def WorkerNamesWrongFalsely : Prop := workerNamesRow.holds Try.pinned (OpenSpec.ofChange workerNamesWrong)

/-- 'fringelaw19.WorkerStays': WHATEVER THE INPUT: true; the input reads as it did. -/
def workerStaysSpec : ChangeSpec := { name := "workerStays", fn := fun _ => fun
  | [d1, d2, d3, d4] => { results := [.lit (.bool true)], args := [d1, d2, d3, d4] }
  | _ => none }
def workerStaysRow : OpenClaim := { program := "ytdekbncpodjgnaa", sum := "327bf780f541c131f3d47b654462dfc9c1b2486959f2a27365ace66dd9e91d57", func := "fringe/fringelaw19.WorkerStays", spec := "workerStays", unfollowed := true, recurses := true, apart := false }
def WorkerStaysSaid : Prop := workerStaysRow.holds Try.pinned (OpenSpec.ofChange workerStaysSpec)

/-- ITS FALSE NEIGHBOUR: 'it returns false'. Refute it at one input. -/
def workerStaysWrong : ChangeSpec := { name := "workerStays", fn := fun _ => fun
  | [d1, d2, d3, d4] => { results := [.lit (.bool false)], args := [d1, d2, d3, d4] }
  | _ => none }
def WorkerStaysWrongFalsely : Prop := workerStaysRow.holds Try.pinned (OpenSpec.ofChange workerStaysWrong)

/-- 'fringelaw19.WorkerSizes': WHATEVER THE INPUT: true; the input reads as it did. -/
def workerSizesSpec : ChangeSpec := { name := "workerSizes", fn := fun _ => fun
  | [d1, d2] => { results := [.lit (.bool true)], args := [d1, d2] }
  | _ => none }
def workerSizesRow : OpenClaim := { program := "ytdekbncpodjgnaa", sum := "327bf780f541c131f3d47b654462dfc9c1b2486959f2a27365ace66dd9e91d57", func := "fringe/fringelaw19.WorkerSizes", spec := "workerSizes", unfollowed := true, recurses := true, apart := false }
def WorkerSizesSaid : Prop := workerSizesRow.holds Try.pinned (OpenSpec.ofChange workerSizesSpec)

/-- ITS FALSE NEIGHBOUR: 'it returns false'. Refute it at one input. -/
def workerSizesWrong : ChangeSpec := { name := "workerSizes", fn := fun _ => fun
  | [d1, d2] => { results := [.lit (.bool false)], args := [d1, d2] }
  | _ => none }
def WorkerSizesWrongFalsely : Prop := workerSizesRow.holds Try.pinned (OpenSpec.ofChange workerSizesWrong)

/- THE SECOND FORM. 'bulk': how many values and letters a reading holds, each counted each time it is reached (what is shared counts as often as it is met; a slice's spare places count too). A statement '..UptoSaid' is the law's where the arguments, and the package variables that the reading takes, are together of bulk at most 1048576: NARROWER than '..Said'. Prove '..Said' where nothing that the law and all that it calls make is longer than what came in: it says more and counts as full. Else prove '..UptoSaid'. A law counts once. -/
mutual
def uptoBulk {H : Type} : DataW H → Nat
  | .lit (.string bytes) => bytes.length + 1
  | .lit _ => 1
  | .nil => 1
  | .ptr d => uptoBulk d + 1
  | .slice elems spare => uptoBulkAll elems + uptoBulkAll spare + 1
  | .agg parts => uptoBulkAll parts + 1
  | .iface _ d => uptoBulk d + 1
  | .map entries => uptoBulkEntries entries + 1
  | .held _ => 1
def uptoBulkAll {H : Type} : List (DataW H) → Nat
  | [] => 0
  | d :: r => uptoBulk d + uptoBulkAll r
def uptoBulkEntries {H : Type} : List (Lit × DataW H) → Nat
  | [] => 0
  | x :: r => uptoBulkEntry x + uptoBulkEntries r
def uptoBulkEntry {H : Type} : Lit × DataW H → Nat
  | (.string bytes, d) => bytes.length + uptoBulk d + 1
  | (_, d) => uptoBulk d + 1
 end
def uptoSmall : (H : Type) → List (DataW H) → Bool := fun _ ds => decide (uptoBulkAll ds ≤ 1048576)
def OpenSpec.upto (s : _root_.Go.ChangeSpec) : _root_.Go.OpenSpec := { _root_.Go.OpenSpec.ofChange s with cond := some uptoSmall }

/-- 'fringelaw19.WorkerParts', WHERE WHAT IT READS IS OF BULK AT MOST 1048576: true; the input reads as it did. -/
def workerPartsUptoRow : OpenClaim := { program := "ytdekbncpodjgnaa", sum := "327bf780f541c131f3d47b654462dfc9c1b2486959f2a27365ace66dd9e91d57", func := "fringe/fringelaw19.WorkerParts", spec := "workerParts", apart := false, narrowed := true }
def WorkerPartsUptoSaid : Prop := workerPartsUptoRow.holds Try.pinned (OpenSpec.upto workerPartsSpec)

/-- 'fringelaw19.WorkerRuns', WHERE WHAT IT READS IS OF BULK AT MOST 1048576: true; the input reads as it did. -/
def workerRunsUptoRow : OpenClaim := { program := "ytdekbncpodjgnaa", sum := "327bf780f541c131f3d47b654462dfc9c1b2486959f2a27365ace66dd9e91d57", func := "fringe/fringelaw19.WorkerRuns", spec := "workerRuns", unfollowed := true, recurses := true, apart := false, narrowed := true }
def WorkerRunsUptoSaid : Prop := workerRunsUptoRow.holds Try.pinned (OpenSpec.upto workerRunsSpec)

/-- 'fringelaw19.WorkerSame', WHERE WHAT IT READS IS OF BULK AT MOST 1048576: true; the input reads as it did. -/
def workerSameUptoRow : OpenClaim := { program := "ytdekbncpodjgnaa", sum := "327bf780f541c131f3d47b654462dfc9c1b2486959f2a27365ace66dd9e91d57", func := "fringe/fringelaw19.WorkerSame", spec := "workerSame", unfollowed := true, recurses := true, apart := false, narrowed := true }
def WorkerSameUptoSaid : Prop := workerSameUptoRow.holds Try.pinned (OpenSpec.upto workerSameSpec)

/-- 'fringelaw19.WorkerNames', WHERE WHAT IT READS IS OF BULK AT MOST 1048576: true; the input reads as it did. -/
def workerNamesUptoRow : OpenClaim := { program := "ytdekbncpodjgnaa", sum := "327bf780f541c131f3d47b654462dfc9c1b2486959f2a27365ace66dd9e91d57", func := "fringe/fringelaw19.WorkerNames", spec := "workerNames", unfollowed := true, recurses := true, apart := false, narrowed := true }
def WorkerNamesUptoSaid : Prop := workerNamesUptoRow.holds Try.pinned (OpenSpec.upto workerNamesSpec)

/-- 'fringelaw19.WorkerStays', WHERE WHAT IT READS IS OF BULK AT MOST 1048576: true; the input reads as it did. -/
def workerStaysUptoRow : OpenClaim := { program := "ytdekbncpodjgnaa", sum := "327bf780f541c131f3d47b654462dfc9c1b2486959f2a27365ace66dd9e91d57", func := "fringe/fringelaw19.WorkerStays", spec := "workerStays", unfollowed := true, recurses := true, apart := false, narrowed := true }
def WorkerStaysUptoSaid : Prop := workerStaysUptoRow.holds Try.pinned (OpenSpec.upto workerStaysSpec)

/-- 'fringelaw19.WorkerSizes', WHERE WHAT IT READS IS OF BULK AT MOST 1048576: true; the input reads as it did. -/
def workerSizesUptoRow : OpenClaim := { program := "ytdekbncpodjgnaa", sum := "327bf780f541c131f3d47b654462dfc9c1b2486959f2a27365ace66dd9e91d57", func := "fringe/fringelaw19.WorkerSizes", spec := "workerSizes", unfollowed := true, recurses := true, apart := false, narrowed := true }
def WorkerSizesUptoSaid : Prop := workerSizesUptoRow.holds Try.pinned (OpenSpec.upto workerSizesSpec)

end Rows
end Go.Proofs.Ytdekbncpodjgnaa
