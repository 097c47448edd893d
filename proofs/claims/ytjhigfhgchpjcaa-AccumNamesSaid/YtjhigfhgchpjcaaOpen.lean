/-
  Arguments opened: what the row's reading of a slice says in the words of the walks.
-/
import Derived.Test.YtjhigfhgchpjcaaRowsW
import Derived.ProofKit
import Derived.OpenShut
import Derived.ChangeOld
import Derived.Deep.Slices
import Derived.Deep.SlicePairs
namespace Go.Proofs.Ytjhigfhgchpjcaa
open Go.ChangeShapes Go.WideShapes Go.ChangeAt Go.RowKit Go.Deep
set_option linter.unusedVariables false

theorem wf_rng {x : Int} (h : (Lit.int .i64 x).wf = true) : -9223372036854775808 ≤ x ∧ x ≤ 9223372036854775807 := bounds_i64 h

section
variable {H : Type} {enc : TypeId × Value → H} {P : Program} {W : World} {base : Nat} {spare : Nat → Bool} {held : Bool}

theorem addr_plain {W : World} {x : Addr} {v : Value} (h : W.cell? (x.add 0) = some v) : ∃ b off, x = ⟨b, off, none⟩ ∧ b < W.heap.size := by
  have h0 : x.add 0 = x := by simp [Addr.add]
  rw [h0] at h
  obtain ⟨b, off, spot⟩ := x
  have h3 := World.cell?_spot h
  have h4 := World.block_lt_of_cell? W _ h
  simp only at h3 h4
  subst h3
  exact ⟨b, off, rfl, h4⟩

theorem open_RI {t e : TypeId} {k : IntKind} {a : Option Addr} {len cap : Nat} {d : DataW H} {p : List MemPlace} (ht : P.underlying t = some (.slice e)) (he : P.underlying e = some (.int k)) (hc : P.cellsOf e = 1)
    (h : DataW.Trod enc P W base spare held t (.slice a len cap) d p) : ∃ xs : List Int, len = xs.length ∧ xs.length ≤ 9223372036854775807 ∧ RI k W a xs ∧ ∀ x ∈ xs, (Lit.int k x).wf = true := by
  obtain ⟨fuel, hf⟩ := h
  rcases open_ints ht he hc hf with ⟨hcs, _⟩ | ⟨x, l, c, zs, hcs, _, hl, hm, hz, _, hcell, hwz⟩
  · simp [Value.cells] at hcs
    obtain ⟨rfl, rfl, rfl⟩ := hcs
    exact ⟨[], rfl, by simp, RI.nil, by simp⟩
  · simp [Value.cells] at hcs
    obtain ⟨rfl, rfl, rfl⟩ := hcs
    have hlz : len ≤ zs.length := by split at hz <;> omega
    have hlen : (zs.take len).length = len := by simp; omega
    refine ⟨zs.take len, hlen.symm, by rw [hlen]; unfold maxLen at hm; omega, ?_, fun y hy => hwz y (List.mem_of_mem_take hy)⟩
    intro h0
    rw [hlen] at h0 ⊢
    obtain ⟨b, off, rfl, hb⟩ := addr_plain (hcell 0 (by omega))
    refine ⟨b, off, rfl, hb, fun j hj => ?_⟩
    have h1 := hcell j (by omega)
    rw [add_plain] at h1
    rw [h1, getD_lt _ _ (show j < zs.length by omega), getD_lt _ _ (show j < (zs.take len).length by omega)]
    simp

theorem open_RIc {t e : TypeId} {k : IntKind} {a : Option Addr} {len cap : Nat} {d : DataW H} {p : List MemPlace} (ht : P.underlying t = some (.slice e)) (he : P.underlying e = some (.int k)) (hc : P.cellsOf e = 1)
    (h : DataW.Trod enc P W base spare held t (.slice a len cap) d p) : ∃ xs : List Int, len = xs.length ∧ xs.length ≤ 9223372036854775807 ∧ RI k W a xs ∧ (∀ x ∈ xs, (Lit.int k x).wf = true) ∧ xs.length ≤ cap := by
  obtain ⟨fuel, hf⟩ := h
  rcases open_ints ht he hc hf with ⟨hcs, _⟩ | ⟨x, l, c, zs, hcs, _, hl, hm, hz, _, hcell, hwz⟩
  · simp [Value.cells] at hcs
    obtain ⟨rfl, rfl, rfl⟩ := hcs
    exact ⟨[], rfl, by simp, RI.nil, by simp, by simp⟩
  · simp [Value.cells] at hcs
    obtain ⟨rfl, rfl, rfl⟩ := hcs
    have hlz : len ≤ zs.length := by split at hz <;> omega
    have hlen : (zs.take len).length = len := by simp; omega
    refine ⟨zs.take len, hlen.symm, by rw [hlen]; unfold maxLen at hm; omega, ?_, fun y hy => hwz y (List.mem_of_mem_take hy), by rw [hlen]; exact hl⟩
    intro h0
    rw [hlen] at h0 ⊢
    obtain ⟨b, off, rfl, hb⟩ := addr_plain (hcell 0 (by omega))
    refine ⟨b, off, rfl, hb, fun j hj => ?_⟩
    have h1 := hcell j (by omega)
    rw [add_plain] at h1
    rw [h1, getD_lt _ _ (show j < zs.length by omega), getD_lt _ _ (show j < (zs.take len).length by omega)]
    simp

theorem open_RL {t e : TypeId} {f0 f1 : Field} {a : Option Addr} {len cap : Nat} {d : DataW H} {p : List MemPlace} (ht : P.underlying t = some (.slice e)) (he : P.underlying e = some (.struct #[f0, f1]))
    (ce : P.cellsOf e = 2) (o0 : f0.offset = 0) (o1 : f1.offset = 1) (t0 : P.underlying f0.type = some (.int .i64)) (t1 : P.underlying f1.type = some (.int .i64)) (c0 : P.cellsOf f0.type = 1) (c1 : P.cellsOf f1.type = 1)
    (h : DataW.Trod enc P W base spare held t (.slice a len cap) d p) : ∃ l : List (Int × Int), len = l.length ∧ l.length ≤ 9223372036854775807 ∧ RL W a l ∧ ∀ x ∈ l, (Lit.int .i64 x.1).wf = true ∧ (Lit.int .i64 x.2).wf = true := by
  obtain ⟨fuel, hf⟩ := h
  rcases open_slice_pairs ht he ce o0 o1 c0 c1 hf with ⟨hcs, _⟩ | ⟨x, len', cap', m, n, V0, V1, D0, D1, P0, P1, hcs, _, hl, hm, hmm, _, hi⟩
  · simp [Value.cells] at hcs
    obtain ⟨rfl, rfl, rfl⟩ := hcs
    exact ⟨[], rfl, by simp, RL.nil, by simp⟩
  · simp [Value.cells] at hcs
    obtain ⟨rfl, rfl, rfl⟩ := hcs
    have hlm : len ≤ m := by split at hmm <;> omega
    have hex : ∀ i, ∃ y : Int × Int, i < len → V0 i = .int .i64 y.1 ∧ V1 i = .int .i64 y.2 ∧ (Lit.int .i64 y.1).wf = true ∧ (Lit.int .i64 y.2).wf = true := by
      intro i
      by_cases h : i < len
      · obtain ⟨_, _, g0, g1⟩ := hi i (by omega)
        obtain ⟨z0, e0, _, w0⟩ := DataW.trod_int t0 g0
        obtain ⟨z1, e1, _, w1⟩ := DataW.trod_int t1 g1
        simp at e0 e1
        exact ⟨(z0, z1), fun _ => ⟨e0, e1, w0, w1⟩⟩
      · exact ⟨(0, 0), fun h2 => absurd h2 h⟩
    let F := fun i => Classical.choose (hex i)
    have hF : ∀ i, i < len → V0 i = .int .i64 (F i).1 ∧ V1 i = .int .i64 (F i).2 ∧ (Lit.int .i64 (F i).1).wf = true ∧ (Lit.int .i64 (F i).2).wf = true := fun i => Classical.choose_spec (hex i)
    have hlen : ((List.range len).map F).length = len := by simp
    refine ⟨(List.range len).map F, hlen.symm, by rw [hlen]; unfold maxLen at hm; omega, ?_, ?_⟩
    · intro h0
      rw [hlen] at h0 ⊢
      obtain ⟨b, off, rfl, hb⟩ := addr_plain (by simpa using (hi 0 (by omega)).1)
      refine ⟨b, off, rfl, hb, fun j hj => ?_⟩
      obtain ⟨h1, h2, _, _⟩ := hi j (by omega)
      rw [add_plain] at h1 h2
      rw [getD_lt _ _ (by rw [hlen]; exact hj)]
      simp only [List.getElem_map, List.getElem_range]
      exact ⟨by rw [h1, (hF j hj).1], by rw [← Nat.add_assoc] at h2; rw [h2, (hF j hj).2.1]⟩
    · intro y hy
      obtain ⟨i, h1, rfl⟩ := List.mem_map.1 hy
      exact (hF i (by simpa using h1)).2.2
end
end Go.Proofs.Ytjhigfhgchpjcaa
