/-
  'append([]int{}, xs...)': a copy of a slice of numbers.
-/
import Derived.Test.YtbejkfeloffccaaAppend
import Derived.Test.YtbejkfeloffccaaGen
namespace Go.Proofs.Ytbejkfeloffccaa
open Go.RowKit
set_option linter.unusedVariables false

theorem wpList_clone_RI {P : Program} (w0 : World) {ops : Array Oper} {rest : List Oper} {o : Oper} {a : Act} {Q : Exit → Act → World → Prop} (hgd : o.guard = none) (s x : Operand) (t : TypeId)
    (ho : o.op = .call { callee := .builtin .append, args := #[s, x], argTypes := #[t, t] })
    (e : TypeId) {i : TypeInfo} {z : Value} (bytes : Nat) (ht : P.underlying t = some (.slice e)) (hi : P.info? e = some i) (hz : i.zero = some z)
    (hsize : i.size = 1) (hby : i.bytes = bytes) (hzs : z.cells.size = 1) (k : IntKind)
    (g : Nat) (hs0 : a.eval s = .slice (some ⟨g, 0, none⟩) 0 0) (hg : g = w0.heap.size)
    (A : Option Addr) (c : Nat) (xs : List Int) (hx : a.eval x = .slice A xs.length c) (hr : RI k w0 A xs)
    (h63 : xs.length ≤ maxLen) (hbytes : xs.length * bytes ≤ 140737488355328)
    (h : ∀ A' c' w', xs.length ≤ c' → RI k w' A' xs → Below w0.heap.size w0 w' → wpList P ops Q rest (a.put o.dst (.slice A' xs.length c')) w') : wpList P ops Q (o :: rest) a (w0.alloc (.cells #[] e)) := by
  subst hg
  have hs := hs0
  have hown : (w0.alloc (.cells #[] e)).ownsRow w0.heap.size e 1 (.slice (some ⟨w0.heap.size, 0, none⟩) 0 0) 0 (([] : List Int).flatMap (encI k)) := by
    have := own_blk (size := 1) (n := 0) (Blk.new w0 e #[]) (Nat.le_refl _) (by simp) (by unfold maxLen; omega)
    simpa using this
  refine wpList_append_RI _ hgd s x t ho w0.heap.size e i z bytes ht hi hz hsize hby hzs k _ 0 [] hs hown A c xs hx (hr.keep (balloc (Below.refl _ _) _)) (by omega) (by rw [Nat.zero_add]; exact hbytes) (by simp) ?_
  intro v1 w1 hown1 hgrow1
  rw [Nat.zero_add, List.nil_append] at hown1
  obtain ⟨A1, c1, rfl, hc1⟩ := own_shape' hown1
  exact h A1 c1 w1 hc1 (own_RI hown1) (own_below (balloc (Below.refl _ _) _) hown hgrow1 (Nat.le_refl _) (by simp))
end Go.Proofs.Ytbejkfeloffccaa
