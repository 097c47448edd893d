/-
  Arguments opened: a job by value.
-/
import Derived.Test.YtdekbncpodjgnaaOpen
import Derived.Test.YtdekbncpodjgnaaPWkA
import Derived.Lib.SmallJoins
namespace Go.Proofs.Ytdekbncpodjgnaa
open Go.ChangeShapes Go.WideShapes Go.ChangeAt Go.RowKit Go.Deep
set_option linter.unusedVariables false
set_option linter.unusedSimpArgs false
namespace Wk

section
variable {H : Type} {enc : TypeId × Value → H} {P : Program} {W : World} {base : Nat} {spare : Nat → Bool} {held : Bool}
theorem cell_RI {t e : TypeId} {k : IntKind} {v : Value} {y : DataW H × List MemPlace} {fuel : Nat} (ht : P.underlying t = some (.slice e)) (he : P.underlying e = some (.int k)) (hc : P.cellsOf e = 1)
    (hf : DataW.trod enc P W base spare held fuel t [v] = some y) : ∃ (xs : List Int) (a : Option Addr) (cap : Nat), v = .slice a xs.length cap ∧ xs.length ≤ 9223372036854775807 ∧ RI k W a xs ∧ (∀ x ∈ xs, (Lit.int k x).wf = true) ∧ xs.length ≤ cap := by
  rcases open_ints ht he hc hf with ⟨hcs, _⟩ | ⟨x, l, c, zs, hcs, _, hl, hm, hz, _, hcell, hwz⟩
  · simp at hcs
    subst hcs
    exact ⟨[], none, 0, rfl, by simp, RI.nil, by simp, by simp⟩
  · simp at hcs
    subst hcs
    have hlz : l ≤ zs.length := by split at hz <;> omega
    have hlen : (zs.take l).length = l := by simp; omega
    refine ⟨zs.take l, some x, c, by rw [hlen], by rw [hlen]; unfold maxLen at hm; omega, ?_, fun y hy => hwz y (List.mem_of_mem_take hy), by rw [hlen]; exact hl⟩
    intro h0
    rw [hlen] at h0 ⊢
    obtain ⟨b, off, rfl, hb⟩ := addr_plain (hcell 0 (by omega))
    refine ⟨b, off, rfl, hb, fun j hj => ?_⟩
    have h1 := hcell j (by omega)
    rw [add_plain] at h1
    rw [h1, getD_lt _ _ (show j < zs.length by omega), getD_lt _ _ (show j < (zs.take l).length by omega)]
    simp
end
/-- What is known of a job that comes in. -/
structure InJ (W : World) (X Y : Option Addr) (cx cy : Nat) (xs ys : List Int) (m s : Int) : Prop where
  x : RI .i64 W X xs
  y : RI .i64 W Y ys
  cx : xs.length ≤ cx
  cy : ys.length ≤ cy
  lx : xs.length ≤ 9223372036854775807
  ly : ys.length ≤ 9223372036854775807
  m : -9223372036854775808 ≤ m ∧ m ≤ 9223372036854775807
  s : -9223372036854775808 ≤ s ∧ s ≤ 9223372036854775807
set_option maxRecDepth 100000 in
theorem open_job {H : Type} {enc : TypeId × Value → H} {W : World} {base : Nat} {spare : Nat → Bool} {held : Bool} {r : Reach} {b0 : Nat} {v : Value} {d : DataW H} {p : List MemPlace} (hv : Value.okWide Try.prog W r b0 24 v)
    (h : DataW.Trod enc Try.prog W base spare held 24 v d p) : ∃ (X Y : Option Addr) (cx cy : Nat) (xs ys : List Int) (m s : Int), v = .agg #[.slice X xs.length cx, .slice Y ys.length cy, .int .i64 m, .int .i64 s] ∧ InJ W X Y cx cy xs ys m s := by
  obtain ⟨v0, v1, v2, v3, y0, y1, y2, y3, n, rfl, _, _, h0, h1, h2, h3⟩ := Go.Joins.open_agg4 Try.underlying24 (by kernel_rfl) (by kernel_rfl) hv h
  obtain ⟨xs, X, cx, rfl, l1, r1, _, k1⟩ := cell_RI Try.underlying22 Try.underlying3 (by kernel_rfl) h0
  obtain ⟨ys, Y, cy, rfl, l2, r2, _, k2⟩ := cell_RI Try.underlying22 Try.underlying3 (by kernel_rfl) h1
  obtain ⟨m, e2, _, w2⟩ := DataW.trod_int Try.underlying3 h2
  obtain ⟨s, e3, _, w3⟩ := DataW.trod_int Try.underlying3 h3
  simp at e2 e3
  subst e2 e3
  exact ⟨X, Y, cx, cy, xs, ys, m, s, rfl, ⟨r1, r2, k1, k2, l1, l2, wf_rng w2, wf_rng w3⟩⟩
end Wk
end Go.Proofs.Ytdekbncpodjgnaa
