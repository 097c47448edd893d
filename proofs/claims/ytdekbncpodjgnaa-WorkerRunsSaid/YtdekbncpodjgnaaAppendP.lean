/-
  'append(out, l...)' onto a row of the call's own, l a slice of pairs that is nil, empty or not.
-/
import Derived.Test.YtdekbncpodjgnaaAccW
import Derived.Test.YtdekbncpodjgnaaAppend
namespace Go.Proofs.Ytdekbncpodjgnaa
open Go.RowKit
set_option linter.unusedVariables false
set_option linter.unusedSimpArgs false
theorem wpList_append_RL {P : Program} (w : World) {ops : Array Oper} {rest : List Oper} {o : Oper} {a : Act} {Q : Exit → Act → World → Prop} (hgd : o.guard = none) (s x : Operand) (t : TypeId)
    (ho : o.op = .call { callee := .builtin .append, args := #[s, x], argTypes := #[t, t] })
    (base : Nat) (e : TypeId) (i : TypeInfo) (z : Value) (bytes : Nat) (ht : P.underlying t = some (.slice e)) (hi : P.info? e = some i) (hz : i.zero = some z)
    (hsize : i.size = 2) (hby : i.bytes = bytes) (hzs : z.cells.size = 2)
    (v : Value) (n : Nat) (l : List (Int × Int)) (hs : a.eval s = v) (hown : w.ownsRow base e 2 v n (l.flatMap encP))
    (A : Option Addr) (c : Nat) (xs : List (Int × Int)) (hx : a.eval x = .slice A xs.length c) (hr : RL w A xs)
    (h63 : n + xs.length ≤ maxLen) (hbytes : (n + xs.length) * bytes ≤ 140737488355328) (hbase : base ≤ w.heap.size)
    (h : ∀ v' w', w'.ownsRow base e 2 v' (n + xs.length) ((l ++ xs).flatMap encP) → w.grownBy w' v.ownBlock → wpList P ops Q rest (a.put o.dst v') w') : wpList P ops Q (o :: rest) a w := by
  rcases A with _ | ad
  · have h0 : xs = [] := by
      rcases xs with _ | ⟨y, ys⟩
      · rfl
      · obtain ⟨b, off, e1, _⟩ := hr (by simp)
        cases e1
    subst h0
    refine wpList_plain hgd fun K hK => ?_
    have hrun : (Builtin.append_ #[t, t] o.type #[v, .slice none 0 c]).run P w = .ok v w := by
      rcases hown.2 with ⟨rfl, _⟩ | ⟨g, cap, cur, rfl, _, _, hnc, _⟩
      · simp [Builtin.append_, run_underlying ht, sizeOf, typeInfo, hi, Builtin.lenOf, Builtin.firstCells]
      · simp [Builtin.append_, run_underlying ht, sizeOf, typeInfo, hi, Builtin.lenOf, Builtin.firstCells, hnc, storeCells]
    unfold Oper.wp
    simp [execOp, ho, resolve, invoke, builtin, hs, hx, hrun, Result.andThen]
    exact hK _ _ (h v w (by simpa using hown) (World.grownBy.refl _ _))
  · refine wpList_append_own w hgd s x t ho base e i z 2 bytes ht hi hz hsize hby hzs (by omega) v n (l.flatMap encP) hs hown ad xs.length c (xs.flatMap encP) hx (by rw [flat_len _ 2 encP_len]) ?_ encP_one' h63 hbytes hbase ?_
    · rcases xs with _ | ⟨y, ys⟩
      · intro j u hu; simp at hu
      · exact RL_news hr (by simp)
    · intro v' w' h1 h2 _
      exact h v' w' (by rw [List.flatMap_append]; exact h1) h2
theorem wpList_clone_RL {P : Program} (w : World) {ops : Array Oper} {rest : List Oper} {o : Oper} {a : Act} {Q : Exit → Act → World → Prop} (hgd : o.guard = none) (s x : Operand) (t : TypeId)
    (ho : o.op = .call { callee := .builtin .append, args := #[s, x], argTypes := #[t, t] })
    (e : TypeId) {i : TypeInfo} {z : Value} (bytes : Nat) (ht : P.underlying t = some (.slice e)) (hi : P.info? e = some i) (hz : i.zero = some z)
    (hsize : i.size = 2) (hby : i.bytes = bytes) (hzs : z.cells.size = 2) (g B : Nat) (hs : a.eval s = .slice (some ⟨g, 0, none⟩) 0 0) (hg : B ≤ g) (hB : B ≤ w.heap.size)
    (A : Option Addr) (c : Nat) (l : List (Int × Int)) (hx : a.eval x = .slice A l.length c) (hr : RL w A l) (h63 : l.length ≤ maxLen) (hbytes : l.length * bytes ≤ 140737488355328)
    (h : ∀ A' c' w', RL w' A' l → Fresh B A' → Below w.heap.size w w' → wpList P ops Q rest (a.put o.dst (.slice A' l.length c')) w') : wpList P ops Q (o :: rest) a w := by
  refine wpList_plain hgd fun K hK => ?_
  have := step_clone_RL (P := P) (w := w) (ops := #[]) (o := o) (a := a) (K := K) (Q := Q) (E := True) hgd s x t ho e bytes ht hi hz hsize hby hzs g B hs hg hB A c l hx hr h63 hbytes (fun A' c' w' h1 h2 h3 => hK _ _ (h A' c' w' h1 h2 h3))
  rwa [if_pos (by simp [Region.wanted, hgd])] at this
end Go.Proofs.Ytdekbncpodjgnaa
