/-
  No cell of these rows narrows 'for every input' (looked for: loops, veiled, ifaces, maps, wideKeys, modest, calm, conditions, laid).
  DERIVED. THE GIVEN ROWS OF THIS SEAT. 6 by the template 'for every input the law returns true; each argument reads behind the call as it read before'; 0 by the template 'total and deterministic' (their statements: YtjhigfhgchpjcaaTotals.lean).
  GIVEN WITH THE SEED: the statements are not yours to turn. If you find one false, say at which input.
  Laid BY PROGRAM, IN A SANDBOX (cutbox-rows.mjs): the forced cells as the released guide's own fill.sh prints them over the translation bff8a0fbfa770ccf… (all of the seat's roots in one cut). By AI agents, Wed Nov 11 2026. No macro, syntax, notation, axiom, sorry.
-/
import Derived.Test.YtjhigfhgchpjcaaChecked
import GoSem.Claim
import GoSem.ClaimJoined
import GoSem.ClaimMapViews
import Derived.JoinedTies
import Derived.KernelRfl
namespace Go.Proofs.Ytjhigfhgchpjcaa
/- THE CELL 'sum', in the pinned program and in every row, IS THE sha256 OF THE DUMP (.gsa) THAT YtjhigfhgchpjcaaProg.lean LOADS. Nothing in Lean hashes anything: it is a label: what it is worth is what the hold of that sum in a sandbox is worth. -/
noncomputable def Try.pinned : Pinned := { name := "ytjhigfhgchpjcaa", sum := "bff8a0fbfa770ccf558a8f18f8297b3e8ddcb60cb5e20bc572c0748b503a8831", checked := Try.checked }
namespace Rows
def none {H : Type} : Left H := { results := [], args := [] }

/-- 'fringelaw18.AccumAdds': WHATEVER THE INPUT: true; the input reads as it did. -/
def accumAddsSpec : ChangeSpec := { name := "accumAdds", fn := fun _ => fun
  | [d1, d2, d3, d4, d5] => { results := [.lit (.bool true)], args := [d1, d2, d3, d4, d5] }
  | _ => none }
def accumAddsRow : OpenClaim := { program := "ytjhigfhgchpjcaa", sum := "bff8a0fbfa770ccf558a8f18f8297b3e8ddcb60cb5e20bc572c0748b503a8831", func := "fringe/fringelaw18.AccumAdds", spec := "accumAdds", unfollowed := true, recurses := true, apart := false }
def AccumAddsSaid : Prop := accumAddsRow.holds Try.pinned (OpenSpec.ofChange accumAddsSpec)

/-- ITS FALSE NEIGHBOUR: 'it returns false'. Refute it at one input. -/
def accumAddsWrong : ChangeSpec := { name := "accumAdds", fn := fun _ => fun
  | [d1, d2, d3, d4, d5] => { results := [.lit (.bool false)], args := [d1, d2, d3, d4, d5] }
  | _ => none }
def AccumAddsWrongFalsely : Prop := accumAddsRow.holds Try.pinned (OpenSpec.ofChange accumAddsWrong)

/-- 'fringelaw18.AccumMerges': WHATEVER THE INPUT: true; the input reads as it did. -/
def accumMergesSpec : ChangeSpec := { name := "accumMerges", fn := fun _ => fun
  | [d1, d2, d3] => { results := [.lit (.bool true)], args := [d1, d2, d3] }
  | _ => none }
def accumMergesRow : OpenClaim := { program := "ytjhigfhgchpjcaa", sum := "bff8a0fbfa770ccf558a8f18f8297b3e8ddcb60cb5e20bc572c0748b503a8831", func := "fringe/fringelaw18.AccumMerges", spec := "accumMerges", unfollowed := true, recurses := true, apart := false }
def AccumMergesSaid : Prop := accumMergesRow.holds Try.pinned (OpenSpec.ofChange accumMergesSpec)

/-- ITS FALSE NEIGHBOUR: 'it returns false'. Refute it at one input. -/
def accumMergesWrong : ChangeSpec := { name := "accumMerges", fn := fun _ => fun
  | [d1, d2, d3] => { results := [.lit (.bool false)], args := [d1, d2, d3] }
  | _ => none }
def AccumMergesWrongFalsely : Prop := accumMergesRow.holds Try.pinned (OpenSpec.ofChange accumMergesWrong)

/-- 'fringelaw18.AccumNames': WHATEVER THE INPUT: true; the input reads as it did. -/
def accumNamesSpec : ChangeSpec := { name := "accumNames", fn := fun _ => fun
  | [] => { results := [.lit (.bool true)], args := [] }
  | _ => none }
def accumNamesRow : OpenClaim := { program := "ytjhigfhgchpjcaa", sum := "bff8a0fbfa770ccf558a8f18f8297b3e8ddcb60cb5e20bc572c0748b503a8831", func := "fringe/fringelaw18.AccumNames", spec := "accumNames", unfollowed := true, recurses := true, apart := false }
def AccumNamesSaid : Prop := accumNamesRow.holds Try.pinned (OpenSpec.ofChange accumNamesSpec)

/-- ITS FALSE NEIGHBOUR: 'it returns false'. Refute it at one input. -/
def accumNamesWrong : ChangeSpec := { name := "accumNames", fn := fun _ => fun
  | [] => { results := [.lit (.bool false)], args := [] }
  | _ => none }
def AccumNamesWrongFalsely : Prop := accumNamesRow.holds Try.pinned (OpenSpec.ofChange accumNamesWrong)

/-- 'fringelaw18.AccumOrder': WHATEVER THE INPUT: true; the input reads as it did. -/
def accumOrderSpec : ChangeSpec := { name := "accumOrder", fn := fun _ => fun
  | [d1, d2, d3] => { results := [.lit (.bool true)], args := [d1, d2, d3] }
  | _ => none }
def accumOrderRow : OpenClaim := { program := "ytjhigfhgchpjcaa", sum := "bff8a0fbfa770ccf558a8f18f8297b3e8ddcb60cb5e20bc572c0748b503a8831", func := "fringe/fringelaw18.AccumOrder", spec := "accumOrder", unfollowed := true, recurses := true, apart := false }
def AccumOrderSaid : Prop := accumOrderRow.holds Try.pinned (OpenSpec.ofChange accumOrderSpec)

/-- ITS FALSE NEIGHBOUR: 'it returns false'. Refute it at one input. -/
def accumOrderWrong : ChangeSpec := { name := "accumOrder", fn := fun _ => fun
  | [d1, d2, d3] => { results := [.lit (.bool false)], args := [d1, d2, d3] }
  | _ => none }
def AccumOrderWrongFalsely : Prop := accumOrderRow.holds Try.pinned (OpenSpec.ofChange accumOrderWrong)

/-- 'fringelaw18.AccumSums': WHATEVER THE INPUT: true; the input reads as it did. -/
def accumSumsSpec : ChangeSpec := { name := "accumSums", fn := fun _ => fun
  | [d1, d2, d3, d4, d5] => { results := [.lit (.bool true)], args := [d1, d2, d3, d4, d5] }
  | _ => none }
def accumSumsRow : OpenClaim := { program := "ytjhigfhgchpjcaa", sum := "bff8a0fbfa770ccf558a8f18f8297b3e8ddcb60cb5e20bc572c0748b503a8831", func := "fringe/fringelaw18.AccumSums", spec := "accumSums", unfollowed := true, recurses := true, apart := false }
def AccumSumsSaid : Prop := accumSumsRow.holds Try.pinned (OpenSpec.ofChange accumSumsSpec)

/-- ITS FALSE NEIGHBOUR: 'it returns false'. Refute it at one input. -/
def accumSumsWrong : ChangeSpec := { name := "accumSums", fn := fun _ => fun
  | [d1, d2, d3, d4, d5] => { results := [.lit (.bool false)], args := [d1, d2, d3, d4, d5] }
  | _ => none }
def AccumSumsWrongFalsely : Prop := accumSumsRow.holds Try.pinned (OpenSpec.ofChange accumSumsWrong)

/-- 'fringelaw18.AccumMeans': WHATEVER THE INPUT: true; the input reads as it did. -/
def accumMeansSpec : ChangeSpec := { name := "accumMeans", fn := fun _ => fun
  | [d1, d2] => { results := [.lit (.bool true)], args := [d1, d2] }
  | _ => none }
def accumMeansRow : OpenClaim := { program := "ytjhigfhgchpjcaa", sum := "bff8a0fbfa770ccf558a8f18f8297b3e8ddcb60cb5e20bc572c0748b503a8831", func := "fringe/fringelaw18.AccumMeans", spec := "accumMeans", unfollowed := true, recurses := true, apart := false }
def AccumMeansSaid : Prop := accumMeansRow.holds Try.pinned (OpenSpec.ofChange accumMeansSpec)

/-- ITS FALSE NEIGHBOUR: 'it returns false'. Refute it at one input. -/
def accumMeansWrong : ChangeSpec := { name := "accumMeans", fn := fun _ => fun
  | [d1, d2] => { results := [.lit (.bool false)], args := [d1, d2] }
  | _ => none }
def AccumMeansWrongFalsely : Prop := accumMeansRow.holds Try.pinned (OpenSpec.ofChange accumMeansWrong)

/- THE SECOND FORM. 'bulk': how many values and letters a reading holds, each counted each time it is reached (what is shared counts as often as it is met; a slice's spare places count too). A statement '..UptoSaid' is the law's where the arguments, and the package variables that the reading takes, are together of bulk at most 1048576: NARROWER than '..Said'. Prove '..Said' where nothing that the law and all that it calls make is longer than what came in: it says more and counts as full. Else prove '..UptoSaid'. A law counts once. -/
mutual
def uptoBulk {H : Type} : DataW H → Nat
  | .lit (.string bytes) => bytes.length + 1
  | .lit _ => 1
  | .nil => 1
  | .ptr d => uptoBulk d + 1
  | .slice elems spare => uptoBulkAll elems + uptoBulkAll spare + 1
  | .agg parts => uptoBulkAll parts + 1
  | .iface _ d => uptoBulk d + 1
  | .map entries => uptoBulkEntries entries + 1
  | .held _ => 1
def uptoBulkAll {H : Type} : List (DataW H) → Nat
  | [] => 0
  | d :: r => uptoBulk d + uptoBulkAll r
def uptoBulkEntries {H : Type} : List (Lit × DataW H) → Nat
  | [] => 0
  | x :: r => uptoBulkEntry x + uptoBulkEntries r
def uptoBulkEntry {H : Type} : Lit × DataW H → Nat
  | (.string bytes, d) => bytes.length + uptoBulk d + 1
  | (_, d) => uptoBulk d + 1
 end
def uptoSmall : (H : Type) → List (DataW H) → Bool := fun _ ds => decide (uptoBulkAll ds ≤ 1048576)
def OpenSpec.upto (s : _root_.Go.ChangeSpec) : _root_.Go.OpenSpec := { _root_.Go.OpenSpec.ofChange s with cond := some uptoSmall }

/-- 'fringelaw18.AccumAdds', WHERE WHAT IT READS IS OF BULK AT MOST 1048576: true; the input reads as it did. -/
def accumAddsUptoRow : OpenClaim := { program := "ytjhigfhgchpjcaa", sum := "bff8a0fbfa770ccf558a8f18f8297b3e8ddcb60cb5e20bc572c0748b503a8831", func := "fringe/fringelaw18.AccumAdds", spec := "accumAdds", unfollowed := true, recurses := true, apart := false, narrowed := true }
def AccumAddsUptoSaid : Prop := accumAddsUptoRow.holds Try.pinned (OpenSpec.upto accumAddsSpec)

/-- 'fringelaw18.AccumMerges', WHERE WHAT IT READS IS OF BULK AT MOST 1048576: true; the input reads as it did. -/
def accumMergesUptoRow : OpenClaim := { program := "ytjhigfhgchpjcaa", sum := "bff8a0fbfa770ccf558a8f18f8297b3e8ddcb60cb5e20bc572c0748b503a8831", func := "fringe/fringelaw18.AccumMerges", spec := "accumMerges", unfollowed := true, recurses := true, apart := false, narrowed := true }
def AccumMergesUptoSaid : Prop := accumMergesUptoRow.holds Try.pinned (OpenSpec.upto accumMergesSpec)

/-- 'fringelaw18.AccumNames', WHERE WHAT IT READS IS OF BULK AT MOST 1048576: true; the input reads as it did. -/
def accumNamesUptoRow : OpenClaim := { program := "ytjhigfhgchpjcaa", sum := "bff8a0fbfa770ccf558a8f18f8297b3e8ddcb60cb5e20bc572c0748b503a8831", func := "fringe/fringelaw18.AccumNames", spec := "accumNames", unfollowed := true, recurses := true, apart := false, narrowed := true }
def AccumNamesUptoSaid : Prop := accumNamesUptoRow.holds Try.pinned (OpenSpec.upto accumNamesSpec)

/-- 'fringelaw18.AccumOrder', WHERE WHAT IT READS IS OF BULK AT MOST 1048576: true; the input reads as it did. -/
def accumOrderUptoRow : OpenClaim := { program := "ytjhigfhgchpjcaa", sum := "bff8a0fbfa770ccf558a8f18f8297b3e8ddcb60cb5e20bc572c0748b503a8831", func := "fringe/fringelaw18.AccumOrder", spec := "accumOrder", unfollowed := true, recurses := true, apart := false, narrowed := true }
def AccumOrderUptoSaid : Prop := accumOrderUptoRow.holds Try.pinned (OpenSpec.upto accumOrderSpec)

/-- 'fringelaw18.AccumSums', WHERE WHAT IT READS IS OF BULK AT MOST 1048576: true; the input reads as it did. -/
def accumSumsUptoRow : OpenClaim := { program := "ytjhigfhgchpjcaa", sum := "bff8a0fbfa770ccf558a8f18f8297b3e8ddcb60cb5e20bc572c0748b503a8831", func := "fringe/fringelaw18.AccumSums", spec := "accumSums", unfollowed := true, recurses := true, apart := false, narrowed := true }
def AccumSumsUptoSaid : Prop := accumSumsUptoRow.holds Try.pinned (OpenSpec.upto accumSumsSpec)

/-- 'fringelaw18.AccumMeans', WHERE WHAT IT READS IS OF BULK AT MOST 1048576: true; the input reads as it did. -/
def accumMeansUptoRow : OpenClaim := { program := "ytjhigfhgchpjcaa", sum := "bff8a0fbfa770ccf558a8f18f8297b3e8ddcb60cb5e20bc572c0748b503a8831", func := "fringe/fringelaw18.AccumMeans", spec := "accumMeans", unfollowed := true, recurses := true, apart := false, narrowed := true }
def AccumMeansUptoSaid : Prop := accumMeansUptoRow.holds Try.pinned (OpenSpec.upto accumMeansSpec)

end Rows
end Go.Proofs.Ytjhigfhgchpjcaa
