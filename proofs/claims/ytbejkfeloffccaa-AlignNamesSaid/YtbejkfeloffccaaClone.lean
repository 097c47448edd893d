/-
  'append([]int{}, xs...)': a copy of a slice of numbers.
-/
import Derived.Test.YtbejkfeloffccaaAppend
import Derived.Test.YtbejkfeloffccaaGen
namespace Go.Proofs.Ytbejkfeloffccaa
open Go.RowKit
set_option linter.unusedVariables false

theorem wpList_clone_RI {P : Program} (w0 : World) {ops : Array Oper} {rest : List Oper} {o : Oper} {a : Act} {Q : Exit → Act → World → Prop} (hgd : o.guard = none) (s x : Operand) (t : TypeId)
    (ho : o.op = .call { callee := .builtin .append, args := #[s, x], argTypes := #[t, t] })
    (e : TypeId) {i : TypeInfo} {z : Value} (bytes : Nat) (ht : P.underlying t = some (.slice e)) (hi : P.info? e = some i) (hz : i.zero = some z)
    (hsize : i.size = 1) (hby : i.bytes = bytes) (hzs : z.cells.size = 1) (k : IntKind)
    (g : Nat) (hs0 : a.eval s = .slice (some ⟨g, 0, none⟩) 0 0) (hg : g = w0.heap.size)
    (A : Option Addr) (c : Nat) (xs : List Int) (hx : a.eval x = .slice A xs.length c) (hr : RI k w0 A xs)
    (h63 : xs.length ≤ maxLen) (hbytes : xs.length * bytes ≤ 140737488355328)
    (h : ∀ A' c' w', xs.length ≤ c' → RI k w' A' xs → Below w0.heap.size w0 w' → wpList P ops Q rest (a.put o.dst (.slice A' xs.length c')) w') : wpList P ops Q (o :: rest) a (w0.alloc (.cells #[] e)) := by
  subst hg
  have hs := hs0
  have hown : (w0.alloc (.cells #[] e)).ownsRow w0.heap.size e 1 (.slice (some ⟨w0.heap.size, 0, none⟩) 0 0) 0 (([] : List Int).flatMap (encI k)) := by
    have := own_blk (size := 1) (n := 0) (Blk.new w0 e #[]) (Nat.le_refl _) (by simp) (by unfold maxLen; omega)
    simpa using this
  refine wpList_append_RI _ hgd s x t ho w0.heap.size e i z bytes ht hi hz hsize hby hzs k _ 0 [] hs hown A c xs hx (hr.keep (balloc (Below.refl _ _) _)) (by omega) (by rw [Nat.zero_add]; exact hbytes) (by simp) ?_
  intro v1 w1 hown1 hgrow1
  rw [Nat.zero_add, List.nil_append] at hown1
  obtain ⟨A1, c1, rfl, hc1⟩ := own_shape' hown1
  exact h A1 c1 w1 hc1 (own_RI hown1) (own_below (balloc (Below.refl _ _) _) hown hgrow1 (Nat.le_refl _) (by simp))

theorem wp_append_RI {P : Program} (w : World) {o : Oper} {a : Act} {K : Act → World → Prop} {Q : Exit → Act → World → Prop} (s x : Operand) (t : TypeId)
    (ho : o.op = .call { callee := .builtin .append, args := #[s, x], argTypes := #[t, t] })
    (base : Nat) (e : TypeId) (i : TypeInfo) (z : Value) (bytes : Nat) (ht : P.underlying t = some (.slice e)) (hi : P.info? e = some i) (hz : i.zero = some z)
    (hsize : i.size = 1) (hby : i.bytes = bytes) (hzs : z.cells.size = 1) (k : IntKind)
    (v : Value) (n : Nat) (l : List Int) (hs : a.eval s = v) (hown : w.ownsRow base e 1 v n (l.flatMap (encI k)))
    (A : Option Addr) (c : Nat) (xs : List Int) (hx : a.eval x = .slice A xs.length c) (hr : RI k w A xs)
    (h63 : n + xs.length ≤ maxLen) (hbytes : (n + xs.length) * bytes ≤ 140737488355328) (hbase : base ≤ w.heap.size)
    (h : ∀ v' w', w'.ownsRow base e 1 v' (n + xs.length) ((l ++ xs).flatMap (encI k)) → w.grownBy w' v.ownBlock → K (a.put o.dst v') w') : o.wp P a w K Q := by
  rcases A with _ | ad
  · have h0 : xs = [] := by
      rcases xs with _ | ⟨y, ys⟩
      · rfl
      · obtain ⟨b, off, e1, _⟩ := hr (by simp)
        cases e1
    subst h0
    have hrun : (Builtin.append_ #[t, t] o.type #[v, .slice none 0 c]).run P w = .ok v w := by
      rcases hown.2 with ⟨rfl, _⟩ | ⟨g, cap, cur, rfl, _, _, hnc, _⟩
      · simp [Builtin.append_, run_underlying ht, sizeOf, typeInfo, hi, Builtin.lenOf, Builtin.firstCells]
      · simp [Builtin.append_, run_underlying ht, sizeOf, typeInfo, hi, Builtin.lenOf, Builtin.firstCells, hnc, storeCells]
    unfold Oper.wp
    simp [execOp, ho, resolve, invoke, builtin, hs, hx, hrun, Result.andThen]
    exact h v w (by simpa using hown) (World.grownBy.refl _ _)
  · refine wp_append_own w s x t ho base e i z 1 bytes ht hi hz hsize hby hzs (by omega) v n (l.flatMap (encI k)) hs hown ad xs.length c (xs.flatMap (encI k)) hx (by rw [flat_len _ 1 (encI_len k)]) ?_ ?_ h63 hbytes hbase ?_
    · intro j u hu
      have hj : j < xs.length := by
        have := (List.getElem?_eq_some_iff.1 hu).1
        rw [flat_len _ 1 (encI_len k)] at this
        omega
      obtain ⟨b, off, e1, _, hc⟩ := hr (by omega)
      injection e1 with e1
      subst e1
      have h1 := flat_get (encI k) 1 (encI_len k) xs j 0 (by omega) hj
      rw [Nat.mul_one, Nat.add_zero, hu] at h1
      have h2 := hc j hj
      have e2 : (⟨b, off, none⟩ : Addr).add j = ⟨b, off + j, none⟩ := by unfold Addr.add; split <;> simp_all
      rw [e2, h2, getD_lt _ _ hj]
      simpa [encI] using h1.symm
    · intro u hu
      obtain ⟨y, _, hy⟩ := List.mem_flatMap.1 hu
      exact encI_one k y u hy
    · intro v' w' h1 h2 _
      exact h v' w' (by rw [List.flatMap_append]; exact h1) h2
/-- At a step of a region that draws its order: 'append([]int{}, xs...)', or onto nil. -/
theorem step_clone_RI {P : Program} (w : World) {ops : Array Oper} {o : Oper} {a : Act} {K : Act → World → Prop} {Q : Exit → Act → World → Prop} {E : Prop} (hgd : o.guard = none) (s x : Operand) (t : TypeId)
    (ho : o.op = .call { callee := .builtin .append, args := #[s, x], argTypes := #[t, t] })
    (base : Nat) (e : TypeId) {i : TypeInfo} {z : Value} (bytes : Nat) (ht : P.underlying t = some (.slice e)) (hi : P.info? e = some i) (hz : i.zero = some z)
    (hsize : i.size = 1) (hby : i.bytes = bytes) (hzs : z.cells.size = 1) (k : IntKind)
    (v : Value) (hs : a.eval s = v) (hown : w.ownsRow base e 1 v 0 [])
    (A : Option Addr) (c : Nat) (xs : List Int) (hx : a.eval x = .slice A xs.length c) (hr : RI k w A xs)
    (h63 : xs.length ≤ maxLen) (hbytes : xs.length * bytes ≤ 140737488355328) (hbase : base ≤ w.heap.size)
    (h : ∀ A' c' w', xs.length ≤ c' → w'.ownsRow base e 1 (.slice A' xs.length c') xs.length (xs.flatMap (encI k)) → w.grownBy w' v.ownBlock → K (a.put o.dst (.slice A' xs.length c')) w') :
    if Region.wanted o (yielded ops a.tmps) = true then Oper.wp P o a w K Q else E := by
  have hw : Region.wanted o (yielded ops a.tmps) = true := by simp [Region.wanted, hgd]
  rw [if_pos hw]
  refine wp_append_RI w s x t ho base e i z bytes ht hi hz hsize hby hzs k v 0 [] hs (by simpa using hown) A c xs hx hr (by omega) (by rw [Nat.zero_add]; exact hbytes) hbase ?_
  intro v1 w1 hown1 hgrow1
  rw [Nat.zero_add, List.nil_append] at hown1
  obtain ⟨A1, c1, rfl, hc1⟩ := own_shape' hown1
  exact h A1 c1 w1 hc1 hown1 hgrow1
end Go.Proofs.Ytbejkfeloffccaa
