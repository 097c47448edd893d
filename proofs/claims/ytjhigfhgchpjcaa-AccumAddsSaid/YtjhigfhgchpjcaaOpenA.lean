/-
  Arguments opened: an accumulator by value.
-/
import Derived.Test.YtjhigfhgchpjcaaOpen
import Derived.Test.YtjhigfhgchpjcaaAccB
import Derived.Lib.SmallJoins
namespace Go.Proofs.Ytjhigfhgchpjcaa
open Go.ChangeShapes Go.WideShapes Go.ChangeAt Go.RowKit Go.Deep
set_option linter.unusedVariables false
set_option linter.unusedSimpArgs false

def rng2 (l : List (Int × Int)) : Prop := ∀ x ∈ l, (-9223372036854775808 ≤ x.1 ∧ x.1 ≤ 9223372036854775807) ∧ (-9223372036854775808 ≤ x.2 ∧ x.2 ≤ 9223372036854775807)
section
variable {H : Type} {enc : TypeId × Value → H} {P : Program} {W : World} {base : Nat} {spare : Nat → Bool} {held : Bool}
theorem open_RLv {t e : TypeId} {f0 f1 : Field} {v : Value} {y : DataW H × List MemPlace} {fuel : Nat} (ht : P.underlying t = some (.slice e)) (he : P.underlying e = some (.struct #[f0, f1]))
    (ce : P.cellsOf e = 2) (o0 : f0.offset = 0) (o1 : f1.offset = 1) (t0 : P.underlying f0.type = some (.int .i64)) (t1 : P.underlying f1.type = some (.int .i64)) (c0 : P.cellsOf f0.type = 1) (c1 : P.cellsOf f1.type = 1)
    (hf : DataW.trod enc P W base spare held fuel t [v] = some y) : ∃ (a : Option Addr) (c : Nat) (l : List (Int × Int)), v = .slice a l.length c ∧ l.length ≤ 9223372036854775807 ∧ RL W a l ∧ rng2 l := by
  rcases open_slice_pairs ht he ce o0 o1 c0 c1 hf with ⟨hcs, _⟩ | ⟨x, len', cap', m, n, V0, V1, D0, D1, P0, P1, hcs, _, hl, hm, hmm, _, hi⟩
  · simp at hcs
    subst hcs
    exact ⟨none, 0, [], rfl, by simp, RL.nil, by unfold rng2; simp⟩
  · simp at hcs
    subst hcs
    have hlm : len' ≤ m := by split at hmm <;> omega
    have hex : ∀ i, ∃ y : Int × Int, i < len' → V0 i = .int .i64 y.1 ∧ V1 i = .int .i64 y.2 ∧ (Lit.int .i64 y.1).wf = true ∧ (Lit.int .i64 y.2).wf = true := by
      intro i
      by_cases h : i < len'
      · obtain ⟨_, _, g0, g1⟩ := hi i (by omega)
        obtain ⟨z0, e0, _, w0⟩ := DataW.trod_int t0 g0
        obtain ⟨z1, e1, _, w1⟩ := DataW.trod_int t1 g1
        simp at e0 e1
        exact ⟨(z0, z1), fun _ => ⟨e0, e1, w0, w1⟩⟩
      · exact ⟨(0, 0), fun h2 => absurd h2 h⟩
    let F := fun i => Classical.choose (hex i)
    have hF : ∀ i, i < len' → V0 i = .int .i64 (F i).1 ∧ V1 i = .int .i64 (F i).2 ∧ (Lit.int .i64 (F i).1).wf = true ∧ (Lit.int .i64 (F i).2).wf = true := fun i => Classical.choose_spec (hex i)
    have hlen : ((List.range len').map F).length = len' := by simp
    refine ⟨some x, cap', (List.range len').map F, by rw [hlen], by rw [hlen]; unfold maxLen at hm; omega, ?_, ?_⟩
    · intro h0
      rw [hlen] at h0 ⊢
      obtain ⟨b, off, rfl, hb⟩ := addr_plain (by simpa using (hi 0 (by omega)).1)
      refine ⟨b, off, rfl, hb, fun j hj => ?_⟩
      obtain ⟨h1, h2, _, _⟩ := hi j (by omega)
      rw [add_plain] at h1 h2
      rw [getD_lt _ _ (by rw [hlen]; exact hj)]
      simp only [List.getElem_map, List.getElem_range]
      exact ⟨by rw [h1, (hF j hj).1], by rw [← Nat.add_assoc] at h2; rw [h2, (hF j hj).2.1]⟩
    · intro y hy
      obtain ⟨i, h1, rfl⟩ := List.mem_map.1 hy
      have := (hF i (by simpa using h1)).2.2
      exact ⟨wf_rng this.1, wf_rng this.2⟩
end
/-- What is known of an accumulator that comes in. -/
structure InA (a : Acc) : Prop where
  ls : a.s.length ≤ 9223372036854775807
  ln : a.n.length ≤ 9223372036854775807
  lg : a.g.length ≤ 9223372036854775807
  s : rng2 a.s
  n : rng2 a.n
  g : rng2 a.g
set_option maxRecDepth 100000 in
theorem open_acc {H : Type} {enc : TypeId × Value → H} {W : World} {base : Nat} {spare : Nat → Bool} {held : Bool} {r : Reach} {b0 : Nat} {v : Value} {d : DataW H} {p : List MemPlace} (hv : Value.okWide Try.prog W r b0 25 v)
    (h : DataW.Trod enc Try.prog W base spare held 25 v d p) : ∃ (S N G : Option Addr) (c1 c2 c3 : Nat) (a : Acc), v = .agg #[.slice S a.s.length c1, .slice N a.n.length c2, .slice G a.g.length c3] ∧ RA W S N G a ∧ InA a := by
  obtain ⟨v0, v1, v2, y0, y1, y2, n, rfl, _, _, h0, h1, h2⟩ := Go.Joins.open_agg3 Try.underlying25 (by kernel_rfl) (by kernel_rfl) hv h
  obtain ⟨S, c1, s, rfl, l1, r1, w1⟩ := open_RLv Try.underlying22 Try.underlying60 (by kernel_rfl) rfl rfl Try.underlying2 Try.underlying2 (by kernel_rfl) (by kernel_rfl) h0
  obtain ⟨N, c2, n', rfl, l2, r2, w2⟩ := open_RLv Try.underlying22 Try.underlying60 (by kernel_rfl) rfl rfl Try.underlying2 Try.underlying2 (by kernel_rfl) (by kernel_rfl) h1
  obtain ⟨G, c3, g, rfl, l3, r3, w3⟩ := open_RLv Try.underlying23 Try.underlying62 (by kernel_rfl) rfl rfl Try.underlying3 Try.underlying3 (by kernel_rfl) (by kernel_rfl) h2
  exact ⟨S, N, G, c1, c2, c3, ⟨s, n', g⟩, rfl, ⟨r1, r2, r3⟩, ⟨l1, l2, l3, w1, w2, w3⟩⟩
end Go.Proofs.Ytjhigfhgchpjcaa
