/-
  No cell of these rows narrows 'for every input' (looked for: loops, veiled, ifaces, maps, wideKeys, modest, calm, conditions, laid).
  DERIVED. THE GIVEN ROWS OF THIS SEAT. 7 by the template 'for every input the law returns true; each argument reads behind the call as it read before'; 0 by the template 'total and deterministic' (their statements: YtfmhliiljmcejaaTotals.lean).
  GIVEN WITH THE SEED: the statements are not yours to turn. If you find one false, say at which input.
  Laid BY PROGRAM, IN A SANDBOX (cutbox-rows.mjs): the forced cells as the released guide's own fill.sh prints them over the translation 031e448f57673709… (all of the seat's roots in one cut). By AI agents, Wed Nov 11 2026. No macro, syntax, notation, axiom, sorry.
-/
import Derived.Test.YtfmhliiljmcejaaChecked
import GoSem.Claim
import GoSem.ClaimJoined
import GoSem.ClaimMapViews
import Derived.JoinedTies
import Derived.KernelRfl
namespace Go.Proofs.Ytfmhliiljmcejaa
/- THE CELL 'sum', in the pinned program and in every row, IS THE sha256 OF THE DUMP (.gsa) THAT YtfmhliiljmcejaaProg.lean LOADS. Nothing in Lean hashes anything: it is a label: what it is worth is what the hold of that sum in a sandbox is worth. -/
noncomputable def Try.pinned : Pinned := { name := "ytfmhliiljmcejaa", sum := "031e448f5767370933dae497bcc2003aec47dc37081903755cfe507a618cb5f8", checked := Try.checked }
namespace Rows
def none {H : Type} : Left H := { results := [], args := [] }

/-- 'fringelaw16.LagOf': WHATEVER THE INPUT: true; the input reads as it did. -/
def lagOfSpec : ChangeSpec := { name := "lagOf", fn := fun _ => fun
  | [d1, d2, d3, d4] => { results := [.lit (.bool true)], args := [d1, d2, d3, d4] }
  | _ => none }
def lagOfRow : OpenClaim := { program := "ytfmhliiljmcejaa", sum := "031e448f5767370933dae497bcc2003aec47dc37081903755cfe507a618cb5f8", func := "fringe/fringelaw16.LagOf", spec := "lagOf", apart := false }
def LagOfSaid : Prop := lagOfRow.holds Try.pinned (OpenSpec.ofChange lagOfSpec)

/-- ITS FALSE NEIGHBOUR: 'it returns false'. Refute it at one input. -/
def lagOfWrong : ChangeSpec := { name := "lagOf", fn := fun _ => fun
  | [d1, d2, d3, d4] => { results := [.lit (.bool false)], args := [d1, d2, d3, d4] }
  | _ => none }
def LagOfWrongFalsely : Prop := lagOfRow.holds Try.pinned (OpenSpec.ofChange lagOfWrong)

/-- 'fringelaw16.LagLists': WHATEVER THE INPUT: true; the input reads as it did. -/
def lagListsSpec : ChangeSpec := { name := "lagLists", fn := fun _ => fun
  | [d1, d2] => { results := [.lit (.bool true)], args := [d1, d2] }
  | _ => none }
def lagListsRow : OpenClaim := { program := "ytfmhliiljmcejaa", sum := "031e448f5767370933dae497bcc2003aec47dc37081903755cfe507a618cb5f8", func := "fringe/fringelaw16.LagLists", spec := "lagLists", apart := false }
def LagListsSaid : Prop := lagListsRow.holds Try.pinned (OpenSpec.ofChange lagListsSpec)

/-- ITS FALSE NEIGHBOUR: 'it returns false'. Refute it at one input. -/
def lagListsWrong : ChangeSpec := { name := "lagLists", fn := fun _ => fun
  | [d1, d2] => { results := [.lit (.bool false)], args := [d1, d2] }
  | _ => none }
def LagListsWrongFalsely : Prop := lagListsRow.holds Try.pinned (OpenSpec.ofChange lagListsWrong)

/-- 'fringelaw16.LagTotal': WHATEVER THE INPUT: true; the input reads as it did. -/
def lagTotalSpec : ChangeSpec := { name := "lagTotal", fn := fun _ => fun
  | [d1, d2] => { results := [.lit (.bool true)], args := [d1, d2] }
  | _ => none }
def lagTotalRow : OpenClaim := { program := "ytfmhliiljmcejaa", sum := "031e448f5767370933dae497bcc2003aec47dc37081903755cfe507a618cb5f8", func := "fringe/fringelaw16.LagTotal", spec := "lagTotal", apart := false }
def LagTotalSaid : Prop := lagTotalRow.holds Try.pinned (OpenSpec.ofChange lagTotalSpec)

/-- ITS FALSE NEIGHBOUR: 'it returns false'. Refute it at one input. -/
def lagTotalWrong : ChangeSpec := { name := "lagTotal", fn := fun _ => fun
  | [d1, d2] => { results := [.lit (.bool false)], args := [d1, d2] }
  | _ => none }
def LagTotalWrongFalsely : Prop := lagTotalRow.holds Try.pinned (OpenSpec.ofChange lagTotalWrong)

/-- 'fringelaw16.LagMoves': WHATEVER THE INPUT: true; the input reads as it did. -/
def lagMovesSpec : ChangeSpec := { name := "lagMoves", fn := fun _ => fun
  | [d1, d2, d3, d4] => { results := [.lit (.bool true)], args := [d1, d2, d3, d4] }
  | _ => none }
def lagMovesRow : OpenClaim := { program := "ytfmhliiljmcejaa", sum := "031e448f5767370933dae497bcc2003aec47dc37081903755cfe507a618cb5f8", func := "fringe/fringelaw16.LagMoves", spec := "lagMoves", apart := false }
def LagMovesSaid : Prop := lagMovesRow.holds Try.pinned (OpenSpec.ofChange lagMovesSpec)

/-- ITS FALSE NEIGHBOUR: 'it returns false'. Refute it at one input. -/
def lagMovesWrong : ChangeSpec := { name := "lagMoves", fn := fun _ => fun
  | [d1, d2, d3, d4] => { results := [.lit (.bool false)], args := [d1, d2, d3, d4] }
  | _ => none }
def LagMovesWrongFalsely : Prop := lagMovesRow.holds Try.pinned (OpenSpec.ofChange lagMovesWrong)

/-- 'fringelaw16.LagTurns': WHATEVER THE INPUT: true; the input reads as it did. -/
def lagTurnsSpec : ChangeSpec := { name := "lagTurns", fn := fun _ => fun
  | [d1, d2, d3] => { results := [.lit (.bool true)], args := [d1, d2, d3] }
  | _ => none }
def lagTurnsRow : OpenClaim := { program := "ytfmhliiljmcejaa", sum := "031e448f5767370933dae497bcc2003aec47dc37081903755cfe507a618cb5f8", func := "fringe/fringelaw16.LagTurns", spec := "lagTurns", apart := false }
def LagTurnsSaid : Prop := lagTurnsRow.holds Try.pinned (OpenSpec.ofChange lagTurnsSpec)

/-- ITS FALSE NEIGHBOUR: 'it returns false'. Refute it at one input. -/
def lagTurnsWrong : ChangeSpec := { name := "lagTurns", fn := fun _ => fun
  | [d1, d2, d3] => { results := [.lit (.bool false)], args := [d1, d2, d3] }
  | _ => none }
def LagTurnsWrongFalsely : Prop := lagTurnsRow.holds Try.pinned (OpenSpec.ofChange lagTurnsWrong)

/-- 'fringelaw16.LagNames': WHATEVER THE INPUT: true; the input reads as it did. -/
def lagNamesSpec : ChangeSpec := { name := "lagNames", fn := fun _ => fun
  | [] => { results := [.lit (.bool true)], args := [] }
  | _ => none }
def lagNamesRow : OpenClaim := { program := "ytfmhliiljmcejaa", sum := "031e448f5767370933dae497bcc2003aec47dc37081903755cfe507a618cb5f8", func := "fringe/fringelaw16.LagNames", spec := "lagNames", apart := false }
def LagNamesSaid : Prop := lagNamesRow.holds Try.pinned (OpenSpec.ofChange lagNamesSpec)

/-- ITS FALSE NEIGHBOUR: 'it returns false'. Refute it at one input. -/
def lagNamesWrong : ChangeSpec := { name := "lagNames", fn := fun _ => fun
  | [] => { results := [.lit (.bool false)], args := [] }
  | _ => none }
def LagNamesWrongFalsely : Prop := lagNamesRow.holds Try.pinned (OpenSpec.ofChange lagNamesWrong)

/-- 'fringelaw16.LagCuts': WHATEVER THE INPUT: true; the input reads as it did. -/
def lagCutsSpec : ChangeSpec := { name := "lagCuts", fn := fun _ => fun
  | [d1, d2, d3, d4] => { results := [.lit (.bool true)], args := [d1, d2, d3, d4] }
  | _ => none }
def lagCutsRow : OpenClaim := { program := "ytfmhliiljmcejaa", sum := "031e448f5767370933dae497bcc2003aec47dc37081903755cfe507a618cb5f8", func := "fringe/fringelaw16.LagCuts", spec := "lagCuts", apart := false }
def LagCutsSaid : Prop := lagCutsRow.holds Try.pinned (OpenSpec.ofChange lagCutsSpec)

/-- ITS FALSE NEIGHBOUR: 'it returns false'. Refute it at one input. -/
def lagCutsWrong : ChangeSpec := { name := "lagCuts", fn := fun _ => fun
  | [d1, d2, d3, d4] => { results := [.lit (.bool false)], args := [d1, d2, d3, d4] }
  | _ => none }
def LagCutsWrongFalsely : Prop := lagCutsRow.holds Try.pinned (OpenSpec.ofChange lagCutsWrong)

/- THE SECOND FORM. 'bulk': how many values and letters a reading holds, each counted each time it is reached (what is shared counts as often as it is met; a slice's spare places count too). A statement '..UptoSaid' is the law's where the arguments, and the package variables that the reading takes, are together of bulk at most 1048576: NARROWER than '..Said'. Prove '..Said' where nothing that the law and all that it calls make is longer than what came in: it says more and counts as full. Else prove '..UptoSaid'. A law counts once. -/
mutual
def uptoBulk {H : Type} : DataW H → Nat
  | .lit (.string bytes) => bytes.length + 1
  | .lit _ => 1
  | .nil => 1
  | .ptr d => uptoBulk d + 1
  | .slice elems spare => uptoBulkAll elems + uptoBulkAll spare + 1
  | .agg parts => uptoBulkAll parts + 1
  | .iface _ d => uptoBulk d + 1
  | .map entries => uptoBulkEntries entries + 1
  | .held _ => 1
def uptoBulkAll {H : Type} : List (DataW H) → Nat
  | [] => 0
  | d :: r => uptoBulk d + uptoBulkAll r
def uptoBulkEntries {H : Type} : List (Lit × DataW H) → Nat
  | [] => 0
  | x :: r => uptoBulkEntry x + uptoBulkEntries r
def uptoBulkEntry {H : Type} : Lit × DataW H → Nat
  | (.string bytes, d) => bytes.length + uptoBulk d + 1
  | (_, d) => uptoBulk d + 1
 end
def uptoSmall : (H : Type) → List (DataW H) → Bool := fun _ ds => decide (uptoBulkAll ds ≤ 1048576)
def OpenSpec.upto (s : _root_.Go.ChangeSpec) : _root_.Go.OpenSpec := { _root_.Go.OpenSpec.ofChange s with cond := some uptoSmall }

/-- 'fringelaw16.LagOf', WHERE WHAT IT READS IS OF BULK AT MOST 1048576: true; the input reads as it did. -/
def lagOfUptoRow : OpenClaim := { program := "ytfmhliiljmcejaa", sum := "031e448f5767370933dae497bcc2003aec47dc37081903755cfe507a618cb5f8", func := "fringe/fringelaw16.LagOf", spec := "lagOf", apart := false, narrowed := true }
def LagOfUptoSaid : Prop := lagOfUptoRow.holds Try.pinned (OpenSpec.upto lagOfSpec)

/-- 'fringelaw16.LagLists', WHERE WHAT IT READS IS OF BULK AT MOST 1048576: true; the input reads as it did. -/
def lagListsUptoRow : OpenClaim := { program := "ytfmhliiljmcejaa", sum := "031e448f5767370933dae497bcc2003aec47dc37081903755cfe507a618cb5f8", func := "fringe/fringelaw16.LagLists", spec := "lagLists", apart := false, narrowed := true }
def LagListsUptoSaid : Prop := lagListsUptoRow.holds Try.pinned (OpenSpec.upto lagListsSpec)

/-- 'fringelaw16.LagTotal', WHERE WHAT IT READS IS OF BULK AT MOST 1048576: true; the input reads as it did. -/
def lagTotalUptoRow : OpenClaim := { program := "ytfmhliiljmcejaa", sum := "031e448f5767370933dae497bcc2003aec47dc37081903755cfe507a618cb5f8", func := "fringe/fringelaw16.LagTotal", spec := "lagTotal", apart := false, narrowed := true }
def LagTotalUptoSaid : Prop := lagTotalUptoRow.holds Try.pinned (OpenSpec.upto lagTotalSpec)

/-- 'fringelaw16.LagMoves', WHERE WHAT IT READS IS OF BULK AT MOST 1048576: true; the input reads as it did. -/
def lagMovesUptoRow : OpenClaim := { program := "ytfmhliiljmcejaa", sum := "031e448f5767370933dae497bcc2003aec47dc37081903755cfe507a618cb5f8", func := "fringe/fringelaw16.LagMoves", spec := "lagMoves", apart := false, narrowed := true }
def LagMovesUptoSaid : Prop := lagMovesUptoRow.holds Try.pinned (OpenSpec.upto lagMovesSpec)

/-- 'fringelaw16.LagTurns', WHERE WHAT IT READS IS OF BULK AT MOST 1048576: true; the input reads as it did. -/
def lagTurnsUptoRow : OpenClaim := { program := "ytfmhliiljmcejaa", sum := "031e448f5767370933dae497bcc2003aec47dc37081903755cfe507a618cb5f8", func := "fringe/fringelaw16.LagTurns", spec := "lagTurns", apart := false, narrowed := true }
def LagTurnsUptoSaid : Prop := lagTurnsUptoRow.holds Try.pinned (OpenSpec.upto lagTurnsSpec)

/-- 'fringelaw16.LagNames', WHERE WHAT IT READS IS OF BULK AT MOST 1048576: true; the input reads as it did. -/
def lagNamesUptoRow : OpenClaim := { program := "ytfmhliiljmcejaa", sum := "031e448f5767370933dae497bcc2003aec47dc37081903755cfe507a618cb5f8", func := "fringe/fringelaw16.LagNames", spec := "lagNames", apart := false, narrowed := true }
def LagNamesUptoSaid : Prop := lagNamesUptoRow.holds Try.pinned (OpenSpec.upto lagNamesSpec)

/-- 'fringelaw16.LagCuts', WHERE WHAT IT READS IS OF BULK AT MOST 1048576: true; the input reads as it did. -/
def lagCutsUptoRow : OpenClaim := { program := "ytfmhliiljmcejaa", sum := "031e448f5767370933dae497bcc2003aec47dc37081903755cfe507a618cb5f8", func := "fringe/fringelaw16.LagCuts", spec := "lagCuts", apart := false, narrowed := true }
def LagCutsUptoSaid : Prop := lagCutsUptoRow.holds Try.pinned (OpenSpec.upto lagCutsSpec)

end Rows
end Go.Proofs.Ytfmhliiljmcejaa
