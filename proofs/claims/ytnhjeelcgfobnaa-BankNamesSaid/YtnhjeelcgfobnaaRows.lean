/-
  No cell of these rows narrows 'for every input' (looked for: loops, veiled, ifaces, maps, wideKeys, modest, calm, conditions, laid).
  DERIVED. THE GIVEN ROWS OF THIS SEAT. 7 by the template 'for every input the law returns true; each argument reads behind the call as it read before'; 0 by the template 'total and deterministic' (their statements: YtnhjeelcgfobnaaTotals.lean).
  GIVEN WITH THE SEED: the statements are not yours to turn. If you find one false, say at which input.
  Laid BY PROGRAM, IN A SANDBOX (cutbox-rows.mjs): the forced cells as the released guide's own fill.sh prints them over the translation a72fe4928516c54b… (all of the seat's roots in one cut). By AI agents, Wed Nov 11 2026. No macro, syntax, notation, axiom, sorry.
-/
import Derived.Test.YtnhjeelcgfobnaaChecked
import GoSem.Claim
import GoSem.ClaimJoined
import GoSem.ClaimMapViews
import Derived.JoinedTies
import Derived.KernelRfl
namespace Go.Proofs.Ytnhjeelcgfobnaa
/- THE CELL 'sum', in the pinned program and in every row, IS THE sha256 OF THE DUMP (.gsa) THAT YtnhjeelcgfobnaaProg.lean LOADS. Nothing in Lean hashes anything: it is a label: what it is worth is what the hold of that sum in a sandbox is worth. -/
noncomputable def Try.pinned : Pinned := { name := "ytnhjeelcgfobnaa", sum := "a72fe4928516c54bac8b6f8243f0e11fda5f1e4ca4ba0ef71ef35081fff4e8f1", checked := Try.checked }
namespace Rows
def none {H : Type} : Left H := { results := [], args := [] }

/-- 'fringelaw12.BankWorks': WHATEVER THE INPUT: true; the input reads as it did. -/
def bankWorksSpec : ChangeSpec := { name := "bankWorks", fn := fun _ => fun
  | [d1, d2, d3, d4] => { results := [.lit (.bool true)], args := [d1, d2, d3, d4] }
  | _ => none }
def bankWorksRow : OpenClaim := { program := "ytnhjeelcgfobnaa", sum := "a72fe4928516c54bac8b6f8243f0e11fda5f1e4ca4ba0ef71ef35081fff4e8f1", func := "fringe/fringelaw12.BankWorks", spec := "bankWorks", unfollowed := true, recurses := true, apart := false }
def BankWorksSaid : Prop := bankWorksRow.holds Try.pinned (OpenSpec.ofChange bankWorksSpec)

/-- ITS FALSE NEIGHBOUR: 'it returns false'. Refute it at one input. -/
def bankWorksWrong : ChangeSpec := { name := "bankWorks", fn := fun _ => fun
  | [d1, d2, d3, d4] => { results := [.lit (.bool false)], args := [d1, d2, d3, d4] }
  | _ => none }
def BankWorksWrongFalsely : Prop := bankWorksRow.holds Try.pinned (OpenSpec.ofChange bankWorksWrong)

/-- 'fringelaw12.BankMakes': WHATEVER THE INPUT: true; the input reads as it did. -/
def bankMakesSpec : ChangeSpec := { name := "bankMakes", fn := fun _ => fun
  | [d1, d2, d3, d4, d5] => { results := [.lit (.bool true)], args := [d1, d2, d3, d4, d5] }
  | _ => none }
def bankMakesRow : OpenClaim := { program := "ytnhjeelcgfobnaa", sum := "a72fe4928516c54bac8b6f8243f0e11fda5f1e4ca4ba0ef71ef35081fff4e8f1", func := "fringe/fringelaw12.BankMakes", spec := "bankMakes", unfollowed := true, recurses := true, apart := false }
def BankMakesSaid : Prop := bankMakesRow.holds Try.pinned (OpenSpec.ofChange bankMakesSpec)

/-- ITS FALSE NEIGHBOUR: 'it returns false'. Refute it at one input. -/
def bankMakesWrong : ChangeSpec := { name := "bankMakes", fn := fun _ => fun
  | [d1, d2, d3, d4, d5] => { results := [.lit (.bool false)], args := [d1, d2, d3, d4, d5] }
  | _ => none }
def BankMakesWrongFalsely : Prop := bankMakesRow.holds Try.pinned (OpenSpec.ofChange bankMakesWrong)

/-- 'fringelaw12.BankLossless': WHATEVER THE INPUT: true; the input reads as it did. -/
def bankLosslessSpec : ChangeSpec := { name := "bankLossless", fn := fun _ => fun
  | [d1, d2, d3] => { results := [.lit (.bool true)], args := [d1, d2, d3] }
  | _ => none }
def bankLosslessRow : OpenClaim := { program := "ytnhjeelcgfobnaa", sum := "a72fe4928516c54bac8b6f8243f0e11fda5f1e4ca4ba0ef71ef35081fff4e8f1", func := "fringe/fringelaw12.BankLossless", spec := "bankLossless", unfollowed := true, recurses := true, apart := false }
def BankLosslessSaid : Prop := bankLosslessRow.holds Try.pinned (OpenSpec.ofChange bankLosslessSpec)

/-- ITS FALSE NEIGHBOUR: 'it returns false'. Refute it at one input. -/
def bankLosslessWrong : ChangeSpec := { name := "bankLossless", fn := fun _ => fun
  | [d1, d2, d3] => { results := [.lit (.bool false)], args := [d1, d2, d3] }
  | _ => none }
def BankLosslessWrongFalsely : Prop := bankLosslessRow.holds Try.pinned (OpenSpec.ofChange bankLosslessWrong)

/-- 'fringelaw12.BankShifts': WHATEVER THE INPUT: true; the input reads as it did. -/
def bankShiftsSpec : ChangeSpec := { name := "bankShifts", fn := fun _ => fun
  | [d1, d2, d3, d4] => { results := [.lit (.bool true)], args := [d1, d2, d3, d4] }
  | _ => none }
def bankShiftsRow : OpenClaim := { program := "ytnhjeelcgfobnaa", sum := "a72fe4928516c54bac8b6f8243f0e11fda5f1e4ca4ba0ef71ef35081fff4e8f1", func := "fringe/fringelaw12.BankShifts", spec := "bankShifts", unfollowed := true, recurses := true, apart := false }
def BankShiftsSaid : Prop := bankShiftsRow.holds Try.pinned (OpenSpec.ofChange bankShiftsSpec)

/-- ITS FALSE NEIGHBOUR: 'it returns false'. Refute it at one input. -/
def bankShiftsWrong : ChangeSpec := { name := "bankShifts", fn := fun _ => fun
  | [d1, d2, d3, d4] => { results := [.lit (.bool false)], args := [d1, d2, d3, d4] }
  | _ => none }
def BankShiftsWrongFalsely : Prop := bankShiftsRow.holds Try.pinned (OpenSpec.ofChange bankShiftsWrong)

/-- 'fringelaw12.BankPowers': WHATEVER THE INPUT: true; the input reads as it did. -/
def bankPowersSpec : ChangeSpec := { name := "bankPowers", fn := fun _ => fun
  | [d1, d2, d3, d4] => { results := [.lit (.bool true)], args := [d1, d2, d3, d4] }
  | _ => none }
def bankPowersRow : OpenClaim := { program := "ytnhjeelcgfobnaa", sum := "a72fe4928516c54bac8b6f8243f0e11fda5f1e4ca4ba0ef71ef35081fff4e8f1", func := "fringe/fringelaw12.BankPowers", spec := "bankPowers", unfollowed := true, recurses := true, apart := false }
def BankPowersSaid : Prop := bankPowersRow.holds Try.pinned (OpenSpec.ofChange bankPowersSpec)

/-- ITS FALSE NEIGHBOUR: 'it returns false'. Refute it at one input. -/
def bankPowersWrong : ChangeSpec := { name := "bankPowers", fn := fun _ => fun
  | [d1, d2, d3, d4] => { results := [.lit (.bool false)], args := [d1, d2, d3, d4] }
  | _ => none }
def BankPowersWrongFalsely : Prop := bankPowersRow.holds Try.pinned (OpenSpec.ofChange bankPowersWrong)

/-- 'fringelaw12.BankNames': WHATEVER THE INPUT: true; the input reads as it did. -/
def bankNamesSpec : ChangeSpec := { name := "bankNames", fn := fun _ => fun
  | [] => { results := [.lit (.bool true)], args := [] }
  | _ => none }
def bankNamesRow : OpenClaim := { program := "ytnhjeelcgfobnaa", sum := "a72fe4928516c54bac8b6f8243f0e11fda5f1e4ca4ba0ef71ef35081fff4e8f1", func := "fringe/fringelaw12.BankNames", spec := "bankNames", unfollowed := true, recurses := true, apart := false }
def BankNamesSaid : Prop := bankNamesRow.holds Try.pinned (OpenSpec.ofChange bankNamesSpec)

/-- ITS FALSE NEIGHBOUR: 'it returns false'. Refute it at one input. -/
def bankNamesWrong : ChangeSpec := { name := "bankNames", fn := fun _ => fun
  | [] => { results := [.lit (.bool false)], args := [] }
  | _ => none }
def BankNamesWrongFalsely : Prop := bankNamesRow.holds Try.pinned (OpenSpec.ofChange bankNamesWrong)

/-- 'fringelaw12.BankChannels': WHATEVER THE INPUT: true; the input reads as it did. -/
def bankChannelsSpec : ChangeSpec := { name := "bankChannels", fn := fun _ => fun
  | [d1, d2, d3, d4, d5] => { results := [.lit (.bool true)], args := [d1, d2, d3, d4, d5] }
  | _ => none }
def bankChannelsRow : OpenClaim := { program := "ytnhjeelcgfobnaa", sum := "a72fe4928516c54bac8b6f8243f0e11fda5f1e4ca4ba0ef71ef35081fff4e8f1", func := "fringe/fringelaw12.BankChannels", spec := "bankChannels", unfollowed := true, recurses := true, apart := false }
def BankChannelsSaid : Prop := bankChannelsRow.holds Try.pinned (OpenSpec.ofChange bankChannelsSpec)

/-- ITS FALSE NEIGHBOUR: 'it returns false'. Refute it at one input. -/
def bankChannelsWrong : ChangeSpec := { name := "bankChannels", fn := fun _ => fun
  | [d1, d2, d3, d4, d5] => { results := [.lit (.bool false)], args := [d1, d2, d3, d4, d5] }
  | _ => none }
def BankChannelsWrongFalsely : Prop := bankChannelsRow.holds Try.pinned (OpenSpec.ofChange bankChannelsWrong)

/- THE SECOND FORM. 'bulk': how many values and letters a reading holds, each counted each time it is reached (what is shared counts as often as it is met; a slice's spare places count too). A statement '..UptoSaid' is the law's where the arguments, and the package variables that the reading takes, are together of bulk at most 1048576: NARROWER than '..Said'. Prove '..Said' where nothing that the law and all that it calls make is longer than what came in: it says more and counts as full. Else prove '..UptoSaid'. A law counts once. -/
mutual
def uptoBulk {H : Type} : DataW H → Nat
  | .lit (.string bytes) => bytes.length + 1
  | .lit _ => 1
  | .nil => 1
  | .ptr d => uptoBulk d + 1
  | .slice elems spare => uptoBulkAll elems + uptoBulkAll spare + 1
  | .agg parts => uptoBulkAll parts + 1
  | .iface _ d => uptoBulk d + 1
  | .map entries => uptoBulkEntries entries + 1
  | .held _ => 1
def uptoBulkAll {H : Type} : List (DataW H) → Nat
  | [] => 0
  | d :: r => uptoBulk d + uptoBulkAll r
def uptoBulkEntries {H : Type} : List (Lit × DataW H) → Nat
  | [] => 0
  | x :: r => uptoBulkEntry x + uptoBulkEntries r
def uptoBulkEntry {H : Type} : Lit × DataW H → Nat
  | (.string bytes, d) => bytes.length + uptoBulk d + 1
  | (_, d) => uptoBulk d + 1
 end
def uptoSmall : (H : Type) → List (DataW H) → Bool := fun _ ds => decide (uptoBulkAll ds ≤ 1048576)
def OpenSpec.upto (s : _root_.Go.ChangeSpec) : _root_.Go.OpenSpec := { _root_.Go.OpenSpec.ofChange s with cond := some uptoSmall }

/-- 'fringelaw12.BankWorks', WHERE WHAT IT READS IS OF BULK AT MOST 1048576: true; the input reads as it did. -/
def bankWorksUptoRow : OpenClaim := { program := "ytnhjeelcgfobnaa", sum := "a72fe4928516c54bac8b6f8243f0e11fda5f1e4ca4ba0ef71ef35081fff4e8f1", func := "fringe/fringelaw12.BankWorks", spec := "bankWorks", unfollowed := true, recurses := true, apart := false, narrowed := true }
def BankWorksUptoSaid : Prop := bankWorksUptoRow.holds Try.pinned (OpenSpec.upto bankWorksSpec)

/-- 'fringelaw12.BankMakes', WHERE WHAT IT READS IS OF BULK AT MOST 1048576: true; the input reads as it did. -/
def bankMakesUptoRow : OpenClaim := { program := "ytnhjeelcgfobnaa", sum := "a72fe4928516c54bac8b6f8243f0e11fda5f1e4ca4ba0ef71ef35081fff4e8f1", func := "fringe/fringelaw12.BankMakes", spec := "bankMakes", unfollowed := true, recurses := true, apart := false, narrowed := true }
def BankMakesUptoSaid : Prop := bankMakesUptoRow.holds Try.pinned (OpenSpec.upto bankMakesSpec)

/-- 'fringelaw12.BankLossless', WHERE WHAT IT READS IS OF BULK AT MOST 1048576: true; the input reads as it did. -/
def bankLosslessUptoRow : OpenClaim := { program := "ytnhjeelcgfobnaa", sum := "a72fe4928516c54bac8b6f8243f0e11fda5f1e4ca4ba0ef71ef35081fff4e8f1", func := "fringe/fringelaw12.BankLossless", spec := "bankLossless", unfollowed := true, recurses := true, apart := false, narrowed := true }
def BankLosslessUptoSaid : Prop := bankLosslessUptoRow.holds Try.pinned (OpenSpec.upto bankLosslessSpec)

/-- 'fringelaw12.BankShifts', WHERE WHAT IT READS IS OF BULK AT MOST 1048576: true; the input reads as it did. -/
def bankShiftsUptoRow : OpenClaim := { program := "ytnhjeelcgfobnaa", sum := "a72fe4928516c54bac8b6f8243f0e11fda5f1e4ca4ba0ef71ef35081fff4e8f1", func := "fringe/fringelaw12.BankShifts", spec := "bankShifts", unfollowed := true, recurses := true, apart := false, narrowed := true }
def BankShiftsUptoSaid : Prop := bankShiftsUptoRow.holds Try.pinned (OpenSpec.upto bankShiftsSpec)

/-- 'fringelaw12.BankPowers', WHERE WHAT IT READS IS OF BULK AT MOST 1048576: true; the input reads as it did. -/
def bankPowersUptoRow : OpenClaim := { program := "ytnhjeelcgfobnaa", sum := "a72fe4928516c54bac8b6f8243f0e11fda5f1e4ca4ba0ef71ef35081fff4e8f1", func := "fringe/fringelaw12.BankPowers", spec := "bankPowers", unfollowed := true, recurses := true, apart := false, narrowed := true }
def BankPowersUptoSaid : Prop := bankPowersUptoRow.holds Try.pinned (OpenSpec.upto bankPowersSpec)

/-- 'fringelaw12.BankNames', WHERE WHAT IT READS IS OF BULK AT MOST 1048576: true; the input reads as it did. -/
def bankNamesUptoRow : OpenClaim := { program := "ytnhjeelcgfobnaa", sum := "a72fe4928516c54bac8b6f8243f0e11fda5f1e4ca4ba0ef71ef35081fff4e8f1", func := "fringe/fringelaw12.BankNames", spec := "bankNames", unfollowed := true, recurses := true, apart := false, narrowed := true }
def BankNamesUptoSaid : Prop := bankNamesUptoRow.holds Try.pinned (OpenSpec.upto bankNamesSpec)

/-- 'fringelaw12.BankChannels', WHERE WHAT IT READS IS OF BULK AT MOST 1048576: true; the input reads as it did. -/
def bankChannelsUptoRow : OpenClaim := { program := "ytnhjeelcgfobnaa", sum := "a72fe4928516c54bac8b6f8243f0e11fda5f1e4ca4ba0ef71ef35081fff4e8f1", func := "fringe/fringelaw12.BankChannels", spec := "bankChannels", unfollowed := true, recurses := true, apart := false, narrowed := true }
def BankChannelsUptoSaid : Prop := bankChannelsUptoRow.holds Try.pinned (OpenSpec.upto bankChannelsSpec)

end Rows
end Go.Proofs.Ytnhjeelcgfobnaa
