/-
  Two rows of the call's own that lie apart.
-/
import Derived.Test.YtjhigfhgchpjcaaRowsW
namespace Go.Proofs.Ytjhigfhgchpjcaa
open Go.RowKit
set_option linter.unusedVariables false

theorem kept_apart {w w' : World} {base : Nat} {e e' : TypeId} {s s' n m : Nat} {va vb : Value} {xs ys : List Value} (hb : w.ownsRow base e s vb n xs) (hg : w.grownBy w' va.ownBlock) (hd : ∀ g, va.ownBlock = some g → vb.ownBlock ≠ some g) : w'.ownsRow base e s vb n xs := by
  refine hb.kept hg ?_
  cases h : va.ownBlock with
  | none =>
    cases h2 : vb.ownBlock with
    | none => exact .inl rfl
    | some g => exact .inr (by simp)
  | some g => exact .inr (fun h2 => hd g h h2)

theorem apart_one {wr : World} {base : Nat} {e : TypeId} {s n : Nat} {va vb : Value} {xs : List Value} {g H : Nat} (hB : wr.ownsRow base e s vb n xs) (hAB : ∀ g, va.ownBlock = some g → vb.ownBlock ≠ some g) (hat : va.ownBlock = some g ∨ g = H) (hH : wr.heap.size ≤ H) : vb.ownBlock ≠ some g := by
  rcases hat with h | h
  · exact hAB g h
  · intro h2
    have := (hB.lt g h2).2
    omega
theorem apart_two {va vb : Value} {g1 g2 n c1 c2 H : Nat} (h1 : vb.ownBlock ≠ some g1) (hat : vb.ownBlock = some g2 ∨ g2 = H) (hH : g1 < H) : ∀ g, (Value.slice (some ⟨g1, 0, none⟩) n c1).ownBlock = some g → (Value.slice (some ⟨g2, 0, none⟩) n c2).ownBlock ≠ some g := by
  intro g h2 h3
  simp only [Value.ownBlock, Option.some.injEq] at h2 h3
  subst h2; subst h3
  rcases hat with h | h
  · exact h1 h
  · omega
theorem blk_past {wr W w1 : World} {base : Nat} {e : TypeId} {s n : Nat} {va : Value} {xs : List Value} (hA : wr.ownsRow base e s va n xs) (hg : W.grownBy w1 va.ownBlock) : ∀ g t cs, Blk W g t cs → wr.heap.size ≤ g → Blk w1 g t cs := by
  intro g t cs h hle
  refine h.grown hg (fun h2 => ?_)
  have := (hA.lt g h2.symm).2
  omega
end Go.Proofs.Ytjhigfhgchpjcaa
