/-
  No cell of these rows narrows 'for every input' (looked for: loops, veiled, ifaces, maps, wideKeys, modest, calm, conditions, laid).
  DERIVED. THE GIVEN ROWS OF THIS SEAT. 7 by the template 'for every input the law returns true; each argument reads behind the call as it read before'; 0 by the template 'total and deterministic' (their statements: YtnejmgnbamajdaaTotals.lean).
  GIVEN WITH THE SEED: the statements are not yours to turn. If you find one false, say at which input.
  Laid BY PROGRAM, IN A SANDBOX (cutbox-rows.mjs): the forced cells as the released guide's own fill.sh prints them over the translation c1f35df694de0bdb… (all of the seat's roots in one cut). By AI agents, Wed Nov 11 2026. No macro, syntax, notation, axiom, sorry.
-/
import Derived.Test.YtnejmgnbamajdaaChecked
import GoSem.Claim
import GoSem.ClaimJoined
import GoSem.ClaimMapViews
import Derived.JoinedTies
import Derived.KernelRfl
namespace Go.Proofs.Ytnejmgnbamajdaa
/- THE CELL 'sum', in the pinned program and in every row, IS THE sha256 OF THE DUMP (.gsa) THAT YtnejmgnbamajdaaProg.lean LOADS. Nothing in Lean hashes anything: it is a label: what it is worth is what the hold of that sum in a sandbox is worth. -/
noncomputable def Try.pinned : Pinned := { name := "ytnejmgnbamajdaa", sum := "c1f35df694de0bdb8b5d9b1a3d9a9921a4b9a56afbaa295b6410fc64438c836a", checked := Try.checked }
namespace Rows
def none {H : Type} : Left H := { results := [], args := [] }

/-- 'fringelaw20.SearchCells': WHATEVER THE INPUT: true; the input reads as it did. -/
def searchCellsSpec : ChangeSpec := { name := "searchCells", fn := fun _ => fun
  | [d1, d2, d3, d4, d5, d6, d7] => { results := [.lit (.bool true)], args := [d1, d2, d3, d4, d5, d6, d7] }
  | _ => none }
def searchCellsRow : OpenClaim := { program := "ytnejmgnbamajdaa", sum := "c1f35df694de0bdb8b5d9b1a3d9a9921a4b9a56afbaa295b6410fc64438c836a", func := "fringe/fringelaw20.SearchCells", spec := "searchCells", apart := false }
def SearchCellsSaid : Prop := searchCellsRow.holds Try.pinned (OpenSpec.ofChange searchCellsSpec)

/-- ITS FALSE NEIGHBOUR: 'it returns false'. Refute it at one input. -/
def searchCellsWrong : ChangeSpec := { name := "searchCells", fn := fun _ => fun
  | [d1, d2, d3, d4, d5, d6, d7] => { results := [.lit (.bool false)], args := [d1, d2, d3, d4, d5, d6, d7] }
  | _ => none }
def SearchCellsWrongFalsely : Prop := searchCellsRow.holds Try.pinned (OpenSpec.ofChange searchCellsWrong)

/-- 'fringelaw20.SearchGrids': WHATEVER THE INPUT: true; the input reads as it did. -/
def searchGridsSpec : ChangeSpec := { name := "searchGrids", fn := fun _ => fun
  | [d1, d2, d3, d4] => { results := [.lit (.bool true)], args := [d1, d2, d3, d4] }
  | _ => none }
def searchGridsRow : OpenClaim := { program := "ytnejmgnbamajdaa", sum := "c1f35df694de0bdb8b5d9b1a3d9a9921a4b9a56afbaa295b6410fc64438c836a", func := "fringe/fringelaw20.SearchGrids", spec := "searchGrids", unfollowed := true, recurses := true, apart := false }
def SearchGridsSaid : Prop := searchGridsRow.holds Try.pinned (OpenSpec.ofChange searchGridsSpec)

/-- ITS FALSE NEIGHBOUR: 'it returns false'. Refute it at one input. -/
def searchGridsWrong : ChangeSpec := { name := "searchGrids", fn := fun _ => fun
  | [d1, d2, d3, d4] => { results := [.lit (.bool false)], args := [d1, d2, d3, d4] }
  | _ => none }
def SearchGridsWrongFalsely : Prop := searchGridsRow.holds Try.pinned (OpenSpec.ofChange searchGridsWrong)

/-- 'fringelaw20.SearchQuarters': WHATEVER THE INPUT: true; the input reads as it did. -/
def searchQuartersSpec : ChangeSpec := { name := "searchQuarters", fn := fun _ => fun
  | [d1, d2, d3] => { results := [.lit (.bool true)], args := [d1, d2, d3] }
  | _ => none }
def searchQuartersRow : OpenClaim := { program := "ytnejmgnbamajdaa", sum := "c1f35df694de0bdb8b5d9b1a3d9a9921a4b9a56afbaa295b6410fc64438c836a", func := "fringe/fringelaw20.SearchQuarters", spec := "searchQuarters", unfollowed := true, recurses := true, apart := false }
def SearchQuartersSaid : Prop := searchQuartersRow.holds Try.pinned (OpenSpec.ofChange searchQuartersSpec)

/-- ITS FALSE NEIGHBOUR: 'it returns false'. Refute it at one input. -/
def searchQuartersWrong : ChangeSpec := { name := "searchQuarters", fn := fun _ => fun
  | [d1, d2, d3] => { results := [.lit (.bool false)], args := [d1, d2, d3] }
  | _ => none }
def SearchQuartersWrongFalsely : Prop := searchQuartersRow.holds Try.pinned (OpenSpec.ofChange searchQuartersWrong)

/-- 'fringelaw20.SearchBest': WHATEVER THE INPUT: true; the input reads as it did. -/
def searchBestSpec : ChangeSpec := { name := "searchBest", fn := fun _ => fun
  | [d1, d2, d3, d4, d5, d6] => { results := [.lit (.bool true)], args := [d1, d2, d3, d4, d5, d6] }
  | _ => none }
def searchBestRow : OpenClaim := { program := "ytnejmgnbamajdaa", sum := "c1f35df694de0bdb8b5d9b1a3d9a9921a4b9a56afbaa295b6410fc64438c836a", func := "fringe/fringelaw20.SearchBest", spec := "searchBest", unfollowed := true, recurses := true, apart := false }
def SearchBestSaid : Prop := searchBestRow.holds Try.pinned (OpenSpec.ofChange searchBestSpec)

/-- ITS FALSE NEIGHBOUR: 'it returns false'. Refute it at one input. -/
def searchBestWrong : ChangeSpec := { name := "searchBest", fn := fun _ => fun
  | [d1, d2, d3, d4, d5, d6] => { results := [.lit (.bool false)], args := [d1, d2, d3, d4, d5, d6] }
  | _ => none }
def SearchBestWrongFalsely : Prop := searchBestRow.holds Try.pinned (OpenSpec.ofChange searchBestWrong)

/-- 'fringelaw20.SearchTurns': WHATEVER THE INPUT: true; the input reads as it did. -/
def searchTurnsSpec : ChangeSpec := { name := "searchTurns", fn := fun _ => fun
  | [d1, d2, d3, d4, d5] => { results := [.lit (.bool true)], args := [d1, d2, d3, d4, d5] }
  | _ => none }
def searchTurnsRow : OpenClaim := { program := "ytnejmgnbamajdaa", sum := "c1f35df694de0bdb8b5d9b1a3d9a9921a4b9a56afbaa295b6410fc64438c836a", func := "fringe/fringelaw20.SearchTurns", spec := "searchTurns", unfollowed := true, recurses := true, apart := false }
def SearchTurnsSaid : Prop := searchTurnsRow.holds Try.pinned (OpenSpec.ofChange searchTurnsSpec)

/-- ITS FALSE NEIGHBOUR: 'it returns false'. Refute it at one input. -/
def searchTurnsWrong : ChangeSpec := { name := "searchTurns", fn := fun _ => fun
  | [d1, d2, d3, d4, d5] => { results := [.lit (.bool false)], args := [d1, d2, d3, d4, d5] }
  | _ => none }
def SearchTurnsWrongFalsely : Prop := searchTurnsRow.holds Try.pinned (OpenSpec.ofChange searchTurnsWrong)

/-- 'fringelaw20.SearchNames': WHATEVER THE INPUT: true; the input reads as it did. -/
def searchNamesSpec : ChangeSpec := { name := "searchNames", fn := fun _ => fun
  | [] => { results := [.lit (.bool true)], args := [] }
  | _ => none }
def searchNamesRow : OpenClaim := { program := "ytnejmgnbamajdaa", sum := "c1f35df694de0bdb8b5d9b1a3d9a9921a4b9a56afbaa295b6410fc64438c836a", func := "fringe/fringelaw20.SearchNames", spec := "searchNames", unfollowed := true, recurses := true, apart := false }
def SearchNamesSaid : Prop := searchNamesRow.holds Try.pinned (OpenSpec.ofChange searchNamesSpec)

/-- ITS FALSE NEIGHBOUR: 'it returns false'. Refute it at one input. -/
def searchNamesWrong : ChangeSpec := { name := "searchNames", fn := fun _ => fun
  | [] => { results := [.lit (.bool false)], args := [] }
  | _ => none }
def SearchNamesWrongFalsely : Prop := searchNamesRow.holds Try.pinned (OpenSpec.ofChange searchNamesWrong)

/-- 'fringelaw20.SearchPowers': WHATEVER THE INPUT: true; the input reads as it did. -/
def searchPowersSpec : ChangeSpec := { name := "searchPowers", fn := fun _ => fun
  | [d1, d2, d3, d4] => { results := [.lit (.bool true)], args := [d1, d2, d3, d4] }
  | _ => none }
def searchPowersRow : OpenClaim := { program := "ytnejmgnbamajdaa", sum := "c1f35df694de0bdb8b5d9b1a3d9a9921a4b9a56afbaa295b6410fc64438c836a", func := "fringe/fringelaw20.SearchPowers", spec := "searchPowers", unfollowed := true, recurses := true, apart := false }
def SearchPowersSaid : Prop := searchPowersRow.holds Try.pinned (OpenSpec.ofChange searchPowersSpec)

/-- ITS FALSE NEIGHBOUR: 'it returns false'. Refute it at one input. -/
def searchPowersWrong : ChangeSpec := { name := "searchPowers", fn := fun _ => fun
  | [d1, d2, d3, d4] => { results := [.lit (.bool false)], args := [d1, d2, d3, d4] }
  | _ => none }
def SearchPowersWrongFalsely : Prop := searchPowersRow.holds Try.pinned (OpenSpec.ofChange searchPowersWrong)

/- THE SECOND FORM. 'bulk': how many values and letters a reading holds, each counted each time it is reached (what is shared counts as often as it is met; a slice's spare places count too). A statement '..UptoSaid' is the law's where the arguments, and the package variables that the reading takes, are together of bulk at most 1048576: NARROWER than '..Said'. Prove '..Said' where nothing that the law and all that it calls make is longer than what came in: it says more and counts as full. Else prove '..UptoSaid'. A law counts once. -/
mutual
def uptoBulk {H : Type} : DataW H → Nat
  | .lit (.string bytes) => bytes.length + 1
  | .lit _ => 1
  | .nil => 1
  | .ptr d => uptoBulk d + 1
  | .slice elems spare => uptoBulkAll elems + uptoBulkAll spare + 1
  | .agg parts => uptoBulkAll parts + 1
  | .iface _ d => uptoBulk d + 1
  | .map entries => uptoBulkEntries entries + 1
  | .held _ => 1
def uptoBulkAll {H : Type} : List (DataW H) → Nat
  | [] => 0
  | d :: r => uptoBulk d + uptoBulkAll r
def uptoBulkEntries {H : Type} : List (Lit × DataW H) → Nat
  | [] => 0
  | x :: r => uptoBulkEntry x + uptoBulkEntries r
def uptoBulkEntry {H : Type} : Lit × DataW H → Nat
  | (.string bytes, d) => bytes.length + uptoBulk d + 1
  | (_, d) => uptoBulk d + 1
 end
def uptoSmall : (H : Type) → List (DataW H) → Bool := fun _ ds => decide (uptoBulkAll ds ≤ 1048576)
def OpenSpec.upto (s : _root_.Go.ChangeSpec) : _root_.Go.OpenSpec := { _root_.Go.OpenSpec.ofChange s with cond := some uptoSmall }

/-- 'fringelaw20.SearchCells', WHERE WHAT IT READS IS OF BULK AT MOST 1048576: true; the input reads as it did. -/
def searchCellsUptoRow : OpenClaim := { program := "ytnejmgnbamajdaa", sum := "c1f35df694de0bdb8b5d9b1a3d9a9921a4b9a56afbaa295b6410fc64438c836a", func := "fringe/fringelaw20.SearchCells", spec := "searchCells", apart := false, narrowed := true }
def SearchCellsUptoSaid : Prop := searchCellsUptoRow.holds Try.pinned (OpenSpec.upto searchCellsSpec)

/-- 'fringelaw20.SearchGrids', WHERE WHAT IT READS IS OF BULK AT MOST 1048576: true; the input reads as it did. -/
def searchGridsUptoRow : OpenClaim := { program := "ytnejmgnbamajdaa", sum := "c1f35df694de0bdb8b5d9b1a3d9a9921a4b9a56afbaa295b6410fc64438c836a", func := "fringe/fringelaw20.SearchGrids", spec := "searchGrids", unfollowed := true, recurses := true, apart := false, narrowed := true }
def SearchGridsUptoSaid : Prop := searchGridsUptoRow.holds Try.pinned (OpenSpec.upto searchGridsSpec)

/-- 'fringelaw20.SearchQuarters', WHERE WHAT IT READS IS OF BULK AT MOST 1048576: true; the input reads as it did. -/
def searchQuartersUptoRow : OpenClaim := { program := "ytnejmgnbamajdaa", sum := "c1f35df694de0bdb8b5d9b1a3d9a9921a4b9a56afbaa295b6410fc64438c836a", func := "fringe/fringelaw20.SearchQuarters", spec := "searchQuarters", unfollowed := true, recurses := true, apart := false, narrowed := true }
def SearchQuartersUptoSaid : Prop := searchQuartersUptoRow.holds Try.pinned (OpenSpec.upto searchQuartersSpec)

/-- 'fringelaw20.SearchBest', WHERE WHAT IT READS IS OF BULK AT MOST 1048576: true; the input reads as it did. -/
def searchBestUptoRow : OpenClaim := { program := "ytnejmgnbamajdaa", sum := "c1f35df694de0bdb8b5d9b1a3d9a9921a4b9a56afbaa295b6410fc64438c836a", func := "fringe/fringelaw20.SearchBest", spec := "searchBest", unfollowed := true, recurses := true, apart := false, narrowed := true }
def SearchBestUptoSaid : Prop := searchBestUptoRow.holds Try.pinned (OpenSpec.upto searchBestSpec)

/-- 'fringelaw20.SearchTurns', WHERE WHAT IT READS IS OF BULK AT MOST 1048576: true; the input reads as it did. -/
def searchTurnsUptoRow : OpenClaim := { program := "ytnejmgnbamajdaa", sum := "c1f35df694de0bdb8b5d9b1a3d9a9921a4b9a56afbaa295b6410fc64438c836a", func := "fringe/fringelaw20.SearchTurns", spec := "searchTurns", unfollowed := true, recurses := true, apart := false, narrowed := true }
def SearchTurnsUptoSaid : Prop := searchTurnsUptoRow.holds Try.pinned (OpenSpec.upto searchTurnsSpec)

/-- 'fringelaw20.SearchNames', WHERE WHAT IT READS IS OF BULK AT MOST 1048576: true; the input reads as it did. -/
def searchNamesUptoRow : OpenClaim := { program := "ytnejmgnbamajdaa", sum := "c1f35df694de0bdb8b5d9b1a3d9a9921a4b9a56afbaa295b6410fc64438c836a", func := "fringe/fringelaw20.SearchNames", spec := "searchNames", unfollowed := true, recurses := true, apart := false, narrowed := true }
def SearchNamesUptoSaid : Prop := searchNamesUptoRow.holds Try.pinned (OpenSpec.upto searchNamesSpec)

/-- 'fringelaw20.SearchPowers', WHERE WHAT IT READS IS OF BULK AT MOST 1048576: true; the input reads as it did. -/
def searchPowersUptoRow : OpenClaim := { program := "ytnejmgnbamajdaa", sum := "c1f35df694de0bdb8b5d9b1a3d9a9921a4b9a56afbaa295b6410fc64438c836a", func := "fringe/fringelaw20.SearchPowers", spec := "searchPowers", unfollowed := true, recurses := true, apart := false, narrowed := true }
def SearchPowersUptoSaid : Prop := searchPowersUptoRow.holds Try.pinned (OpenSpec.upto searchPowersSpec)

end Rows
end Go.Proofs.Ytnejmgnbamajdaa
