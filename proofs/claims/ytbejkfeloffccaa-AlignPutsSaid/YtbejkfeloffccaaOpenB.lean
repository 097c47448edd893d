/-
  A slice of blocks (an int and a slice of ints each) opened.
-/
import Derived.Test.YtbejkfeloffccaaOpen
import Derived.Test.YtbejkfeloffccaaAlignF
namespace Go.Proofs.Ytbejkfeloffccaa
open Go.ChangeShapes Go.WideShapes Go.ChangeAt Go.RowKit Go.Deep
set_option linter.unusedVariables false

section
variable {H : Type} {enc : TypeId × Value → H} {P : Program} {W : World} {base : Nat} {spare : Nat → Bool} {held : Bool}
theorem cell_RI {t e : TypeId} {k : IntKind} {v : Value} {y : DataW H × List MemPlace} {fuel : Nat} (ht : P.underlying t = some (.slice e)) (he : P.underlying e = some (.int k)) (hc : P.cellsOf e = 1)
    (hf : DataW.trod enc P W base spare held fuel t [v] = some y) : ∃ (xs : List Int) (a : Option Addr) (cap : Nat), v = .slice a xs.length cap ∧ xs.length ≤ 9223372036854775807 ∧ RI k W a xs ∧ (∀ x ∈ xs, (Lit.int k x).wf = true) ∧ xs.length ≤ cap := by
  rcases open_ints ht he hc hf with ⟨hcs, _⟩ | ⟨x, l, c, zs, hcs, _, hl, hm, hz, _, hcell, hwz⟩
  · simp at hcs
    subst hcs
    exact ⟨[], none, 0, rfl, by simp, RI.nil, by simp, by simp⟩
  · simp at hcs
    subst hcs
    have hlz : l ≤ zs.length := by split at hz <;> omega
    have hlen : (zs.take l).length = l := by simp; omega
    refine ⟨zs.take l, some x, c, by rw [hlen], by rw [hlen]; unfold maxLen at hm; omega, ?_, fun y hy => hwz y (List.mem_of_mem_take hy), by rw [hlen]; exact hl⟩
    intro h0
    rw [hlen] at h0 ⊢
    obtain ⟨b, off, rfl, hb⟩ := addr_plain (hcell 0 (by omega))
    refine ⟨b, off, rfl, hb, fun j hj => ?_⟩
    have h1 := hcell j (by omega)
    rw [add_plain] at h1
    rw [h1, getD_lt _ _ (show j < zs.length by omega), getD_lt _ _ (show j < (zs.take l).length by omega)]
    simp

theorem open_RB {t e : TypeId} {f0 f1 : Field} {ei : TypeId} {a : Option Addr} {len cap : Nat} {d : DataW H} {p : List MemPlace} (ht : P.underlying t = some (.slice e)) (he : P.underlying e = some (.struct #[f0, f1]))
    (ce : P.cellsOf e = 2) (o0 : f0.offset = 0) (o1 : f1.offset = 1) (t0 : P.underlying f0.type = some (.int .i64)) (t1 : P.underlying f1.type = some (.slice ei)) (ti : P.underlying ei = some (.int .i64)) (c0 : P.cellsOf f0.type = 1) (c1 : P.cellsOf f1.type = 1) (ci : P.cellsOf ei = 1)
    (h : DataW.Trod enc P W base spare held t (.slice a len cap) d p) : ∃ l : List (Int × List Int), len = l.length ∧ l.length ≤ 9223372036854775807 ∧ RB W a l ∧ ∀ x ∈ l, (Lit.int .i64 x.1).wf = true ∧ x.2.length ≤ 9223372036854775807 ∧ ∀ y ∈ x.2, (Lit.int .i64 y).wf = true := by
  obtain ⟨fuel, hf⟩ := h
  rcases open_slice_pairs ht he ce o0 o1 c0 c1 hf with ⟨hcs, _⟩ | ⟨x, len', cap', m, n, V0, V1, D0, D1, P0, P1, hcs, _, hl, hm, hmm, _, hi⟩
  · simp [Value.cells] at hcs
    obtain ⟨rfl, rfl, rfl⟩ := hcs
    exact ⟨[], rfl, by simp, RB.nil, by simp⟩
  · simp [Value.cells] at hcs
    obtain ⟨rfl, rfl, rfl⟩ := hcs
    have hlm : len ≤ m := by split at hmm <;> omega
    have hex : ∀ i, ∃ y : Int × List Int, i < len → V0 i = .int .i64 y.1 ∧ (∃ a c, V1 i = .slice a y.2.length c ∧ RI .i64 W a y.2 ∧ y.2.length ≤ c) ∧ (Lit.int .i64 y.1).wf = true ∧ y.2.length ≤ 9223372036854775807 ∧ ∀ z ∈ y.2, (Lit.int .i64 z).wf = true := by
      intro i
      by_cases h : i < len
      · obtain ⟨_, _, g0, g1⟩ := hi i (by omega)
        obtain ⟨z0, e0, _, w0⟩ := DataW.trod_int t0 g0
        obtain ⟨xs, a, c, e1, h1, h2, h3, h4⟩ := cell_RI t1 ti ci g1
        simp at e0
        exact ⟨(z0, xs), fun _ => ⟨e0, ⟨a, c, e1, h2, h4⟩, w0, h1, h3⟩⟩
      · exact ⟨(0, []), fun h2 => absurd h2 h⟩
    let F := fun i => Classical.choose (hex i)
    have hF : ∀ i, i < len → V0 i = .int .i64 (F i).1 ∧ (∃ a c, V1 i = .slice a (F i).2.length c ∧ RI .i64 W a (F i).2 ∧ (F i).2.length ≤ c) ∧ (Lit.int .i64 (F i).1).wf = true ∧ (F i).2.length ≤ 9223372036854775807 ∧ ∀ z ∈ (F i).2, (Lit.int .i64 z).wf = true := fun i => Classical.choose_spec (hex i)
    have hlen : ((List.range len).map F).length = len := by simp
    refine ⟨(List.range len).map F, hlen.symm, by rw [hlen]; unfold maxLen at hm; omega, ?_, ?_⟩
    · intro h0
      rw [hlen] at h0
      obtain ⟨b, off, rfl, hb⟩ := addr_plain (by simpa using (hi 0 (by omega)).1)
      refine ⟨b, off, rfl, hb, fun j hj => ?_⟩
      rw [hlen] at hj
      obtain ⟨h1, h2, _, _⟩ := hi j (by omega)
      rw [add_plain] at h1 h2
      simp only [List.getElem_map, List.getElem_range]
      obtain ⟨k0, ⟨a', c', k1, k2, k3⟩, _⟩ := hF j hj
      exact ⟨by rw [h1, k0], a', c', by rw [← Nat.add_assoc] at h2; rw [h2, k1], k2, k3⟩
    · intro y hy
      obtain ⟨i, h1, rfl⟩ := List.mem_map.1 hy
      exact (hF i (by simpa using h1)).2.2
theorem cap_RB {t e : TypeId} {f0 f1 : Field} {a : Option Addr} {len cap : Nat} {d : DataW H} {p : List MemPlace} (ht : P.underlying t = some (.slice e)) (he : P.underlying e = some (.struct #[f0, f1]))
    (ce : P.cellsOf e = 2) (o0 : f0.offset = 0) (o1 : f1.offset = 1) (c0 : P.cellsOf f0.type = 1) (c1 : P.cellsOf f1.type = 1)
    (h : DataW.Trod enc P W base spare held t (.slice a len cap) d p) : len ≤ cap := by
  obtain ⟨fuel, hf⟩ := h
  rcases open_slice_pairs ht he ce o0 o1 c0 c1 hf with ⟨hcs, _⟩ | ⟨x, len', cap', m, n, V0, V1, D0, D1, P0, P1, hcs, _, hl, hm, hmm, _, hi⟩
  · simp [Value.cells] at hcs
    obtain ⟨rfl, rfl, rfl⟩ := hcs
    exact Nat.le_refl _
  · simp [Value.cells] at hcs
    obtain ⟨rfl, rfl, rfl⟩ := hcs
    exact hl
end
end Go.Proofs.Ytbejkfeloffccaa
