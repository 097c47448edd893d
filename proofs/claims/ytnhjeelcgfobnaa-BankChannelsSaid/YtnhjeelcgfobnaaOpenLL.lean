/-
  Arguments opened: slices of slices of numbers; slices of truth values.
-/
import Derived.Test.YtnhjeelcgfobnaaOpen
import Derived.Test.YtnhjeelcgfobnaaBkE
import Derived.Deep.Matrix
import Derived.Deep.Grids
namespace Go.Proofs.Ytnhjeelcgfobnaa
open Go.ChangeShapes Go.WideShapes Go.ChangeAt Go.RowKit Go.Deep
set_option linter.unusedVariables false

section
variable {H : Type} {enc : TypeId × Value → H} {P : Program} {W : World} {base : Nat} {held : Bool}
theorem open_RLL {t e q : TypeId} {k : IntKind} {a : Option Addr} {len cap : Nat} {d : DataW H} {p : List MemPlace} (ht : P.underlying t = some (.slice e)) (he : P.underlying e = some (.slice q)) (hq : P.underlying q = some (.int k)) (ce : P.cellsOf e = 1) (cq : P.cellsOf q = 1)
    (h : DataW.Trod enc P W base (fun _ => true) held t (.slice a len cap) d p) : ∃ L : List (List Int), len = L.length ∧ L.length ≤ 9223372036854775807 ∧ Lol.RLL k W a L ∧ ∀ l ∈ L, l.length ≤ 9223372036854775807 := by
  obtain ⟨fuel, hf⟩ := h
  rcases open_int_rows ht he hq ce cq hf with ⟨hcs, _⟩ | ⟨x, len', cap', A, Ln, C, Z, hcs, _, hl, hm, _, hx⟩
  · simp [Value.cells] at hcs
    obtain ⟨rfl, rfl, rfl⟩ := hcs
    exact ⟨[], rfl, by simp, Lol.RLL.nil, by simp⟩
  · simp [Value.cells] at hcs
    obtain ⟨rfl, rfl, rfl⟩ := hcs
    have hFl : ∀ r, r < len → ((Z r).take (Ln r)).length = Ln r := fun r hr => by
      obtain ⟨_, h2, _, h4, _⟩ := hx r (by omega)
      rw [List.length_take, h4]; omega
    refine ⟨(List.range len).map (fun r => (Z r).take (Ln r)), by simp, by unfold maxLen at hm; simp; omega, ?_, fun l hl => ?_⟩
    · intro h0
      have h0' : 0 < len := by simpa using h0
      obtain ⟨b, off, rfl, hb⟩ := addr_plain (hx 0 (by omega)).1
      refine ⟨b, off, rfl, hb, fun j hj => ?_⟩
      have hj2 : j < len := by simpa using hj
      obtain ⟨h1, h2, h3, h4, h5, h6, h7⟩ := hx j (by omega)
      rw [add_plain] at h1
      have e1 : ((List.range len).map (fun r => (Z r).take (Ln r)))[j] = (Z j).take (Ln j) := by simp
      rw [e1]
      refine ⟨A j, C j, by rw [hFl j hj2]; exact h1, ?_, by rw [hFl j hj2]; exact h2⟩
      intro h0
      rw [hFl j hj2] at h0
      cases hA : A j with
      | none => have := h6 hA; omega
      | some a' =>
        obtain ⟨_, hc⟩ := h7 a' hA
        obtain ⟨b', off', rfl, hb'⟩ := addr_plain (hc 0 (by omega))
        refine ⟨b', off', rfl, hb', fun i hi => ?_⟩
        rw [hFl j hj2] at hi
        have h8 := hc i (by omega)
        rw [add_plain] at h8
        rw [h8, getD_lt _ _ (by rw [h4]; omega), getD_lt _ _ (by rw [hFl j hj2]; exact hi)]
        simp
    · obtain ⟨r, hr, rfl⟩ := List.mem_map.1 hl
      have hr2 : r < len := by simpa using hr
      rw [hFl r hr2]
      obtain ⟨_, h2, h3, _⟩ := hx r (by omega)
      unfold maxLen at h3
      omega
theorem open_RBo {t e : TypeId} {a : Option Addr} {len cap : Nat} {d : DataW H} {p : List MemPlace} (ht : P.underlying t = some (.slice e)) (he : P.underlying e = some .bool) (hc : P.cellsOf e = 1)
    (h : DataW.Trod enc P W base (fun _ => true) held t (.slice a len cap) d p) : ∃ l : List Bool, len = l.length ∧ l.length ≤ 9223372036854775807 ∧ Bk.RBo W a l := by
  obtain ⟨fuel, hf⟩ := h
  rcases open_bools ht he hc hf with ⟨hcs, _⟩ | ⟨x, len', cap', B, hcs, _, hl, hm, _, hcell⟩
  · simp [Value.cells] at hcs
    obtain ⟨rfl, rfl, rfl⟩ := hcs
    exact ⟨[], rfl, by simp, Bk.RBo.nil⟩
  · simp [Value.cells] at hcs
    obtain ⟨rfl, rfl, rfl⟩ := hcs
    have hlen : ((List.range len).map B).length = len := by simp
    refine ⟨(List.range len).map B, hlen.symm, by rw [hlen]; unfold maxLen at hm; omega, ?_⟩
    intro h0
    rw [hlen] at h0 ⊢
    obtain ⟨b, off, rfl, hb⟩ := addr_plain (hcell 0 (by omega))
    refine ⟨b, off, rfl, hb, fun j hj => ?_⟩
    have h1 := hcell j (by omega)
    rw [add_plain] at h1
    rw [h1, List.getD_eq_getElem?_getD]
    simp [hj]
end
end Go.Proofs.Ytnhjeelcgfobnaa
