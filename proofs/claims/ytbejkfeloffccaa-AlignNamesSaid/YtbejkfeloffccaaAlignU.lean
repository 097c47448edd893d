/-
  Gaps are just where samples are missing; delays there and back. Plain lists, no program in sight.
-/
import Derived.Test.YtbejkfeloffccaaAlignT
namespace Go.Proofs.Ytbejkfeloffccaa
set_option linter.unusedVariables false

def inGap (g : Int × Int) (k : Int) : Prop := g.1 ≤ k ∧ k < g.1 + g.2
/-- What is true of the gaps of the first K samples. -/
structure Gi (xs : List Int) (K : Nat) (L : List (Int × Int)) : Prop where
  hit : ∀ k : Nat, k < K → ((∃ g ∈ L, inGap g k) ↔ xs.getD k 0 = 0)
  size : ∀ g ∈ L, 0 ≤ g.1 ∧ 1 ≤ g.2 ∧ g.1 + g.2 ≤ K
  order : L.Pairwise (fun g h => g.1 + g.2 < h.1)
  closed : ∀ g ∈ L, g.1 + g.2 = K → xs.getD (K - 1) 0 = 0
theorem Gi.zero (xs : List Int) : Gi xs 0 [] := ⟨fun k hk => by omega, by simp, List.Pairwise.nil, by simp⟩
theorem Gi.skip {xs : List Int} {K : Nat} {L : List (Int × Int)} (h : Gi xs K L) (hz : xs.getD K 0 ≠ 0) : Gi xs (K + 1) L := by
  refine ⟨fun k hk => ?_, fun g hg => ?_, h.order, fun g hg he => ?_⟩
  · rcases Nat.lt_or_ge k K with h1 | h1
    · exact h.hit k h1
    · obtain rfl : k = K := by omega
      refine ⟨fun ⟨g, hg, hin⟩ => ?_, fun h2 => absurd h2 hz⟩
      have := (h.size g hg).2.2
      unfold inGap at hin
      omega
  · have := h.size g hg; omega
  · have := h.size g hg; omega
theorem Gi.new {xs : List Int} {K : Nat} {L : List (Int × Int)} (h : Gi xs K L) (hz : xs.getD K 0 = 0) (hp : K = 0 ∨ xs.getD (K - 1) 0 ≠ 0) : Gi xs (K + 1) (L ++ [((K : Int), 1)]) := by
  have hlt : ∀ g ∈ L, g.1 + g.2 < K := fun g hg => by
    have h1 := h.size g hg
    rcases Int.lt_or_eq_of_le h1.2.2 with h2 | h2
    · exact h2
    · have h3 := h.closed g hg h2
      rcases hp with h4 | h4
      · omega
      · exact absurd h3 h4
  refine ⟨fun k hk => ?_, fun g hg => ?_, ?_, fun g hg he => ?_⟩
  · rcases Nat.lt_or_ge k K with h1 | h1
    · rw [← h.hit k h1]
      constructor
      · rintro ⟨g, hg, hin⟩
        rcases List.mem_append.1 hg with h2 | h2
        · exact ⟨g, h2, hin⟩
        · simp at h2; subst h2; unfold inGap at hin; simp only [] at hin; omega
      · rintro ⟨g, hg, hin⟩
        exact ⟨g, List.mem_append_left _ hg, hin⟩
    · obtain rfl : k = K := by omega
      exact ⟨fun _ => hz, fun _ => ⟨((k : Int), 1), by simp, by unfold inGap; simp only []; omega⟩⟩
  · rcases List.mem_append.1 hg with h2 | h2
    · have := h.size g h2; omega
    · simp at h2; subst h2; simp only []; omega
  · rw [List.pairwise_append]
    refine ⟨h.order, by simp, fun g hg g' hg' => ?_⟩
    simp at hg'; subst hg'
    exact hlt g hg
  · simpa using hz
theorem Gi.bump {xs : List Int} {K s : Nat} {ini : List (Int × Int)} (h : Gi xs K (ini ++ [((s : Int), (K : Int) - s)])) (hs : s < K) (hz : xs.getD K 0 = 0) : Gi xs (K + 1) (ini ++ [((s : Int), ((K + 1 : Nat) : Int) - s)]) := by
  have hord := List.pairwise_append.1 h.order
  refine ⟨fun k hk => ?_, fun g hg => ?_, ?_, fun g hg he => ?_⟩
  · rcases Nat.lt_or_ge k K with h1 | h1
    · rw [← h.hit k h1]
      constructor
      · rintro ⟨g, hg, hin⟩
        rcases List.mem_append.1 hg with h2 | h2
        · exact ⟨g, List.mem_append_left _ h2, hin⟩
        · simp at h2; subst h2
          exact ⟨((s : Int), (K : Int) - s), by simp, by unfold inGap at hin ⊢; simp only [] at hin ⊢; omega⟩
      · rintro ⟨g, hg, hin⟩
        rcases List.mem_append.1 hg with h2 | h2
        · exact ⟨g, List.mem_append_left _ h2, hin⟩
        · simp at h2; subst h2
          exact ⟨((s : Int), ((K + 1 : Nat) : Int) - s), by simp, by unfold inGap at hin ⊢; simp only [] at hin ⊢; omega⟩
    · obtain rfl : k = K := by omega
      exact ⟨fun _ => hz, fun _ => ⟨((s : Int), ((k + 1 : Nat) : Int) - s), by simp, by unfold inGap; simp only []; omega⟩⟩
  · rcases List.mem_append.1 hg with h2 | h2
    · have := h.size g (List.mem_append_left _ h2); omega
    · simp at h2; subst h2; simp only []; omega
  · rw [List.pairwise_append]
    refine ⟨hord.1, by simp, fun g hg g' hg' => ?_⟩
    simp at hg'; subst hg'
    exact hord.2.2 g hg ((s : Int), (K : Int) - s) (by simp)
  · simpa using hz
theorem gaps_gi (xs : List Int) : ∀ K, K ≤ xs.length → Gi xs K (gapsTo xs K) := by
  intro K
  induction K with
  | zero => intro _; exact Gi.zero xs
  | succ K ih =>
    intro hK
    have h := ih (by omega)
    by_cases hz : xs.getD K 0 = 0
    · by_cases hp : 0 < K ∧ xs.getD (K - 1) 0 = 0
      · obtain ⟨ini, s, hs, e1, _, _⟩ := (gaps_inv xs K (by omega)).2 hp
        rw [gapsTo, if_neg (by simp [-List.getD_eq_getElem?_getD, hz]), if_pos hp, e1, bump_snoc]
        rw [e1] at h
        have := h.bump hs hz
        rwa [show ((K + 1 : Nat) : Int) - s = (K : Int) - s + 1 by omega] at this
      · rw [gapsTo, if_neg (by simp [-List.getD_eq_getElem?_getD, hz]), if_neg hp]
        refine h.new hz ?_
        rcases Nat.eq_zero_or_pos K with h3 | h3
        · exact .inl h3
        · exact .inr (fun h4 => hp ⟨h3, h4⟩)
    · rw [gapsTo, if_pos hz]
      exact h.skip hz

theorem delayed_at {xs : List Int} {d : Int} {k : Nat} (hk : k < xs.length) : (delayed xs d).getD k 0 = extI xs ((k : Int) - d) := by
  unfold delayed
  rw [getD_lt _ _ (by simpa using hk)]
  simp
theorem extI_mem {xs : List Int} (p : Int → Prop) (h0 : p 0) (h : ∀ x ∈ xs, p x) (j : Int) : p (extI xs j) := by
  unfold extI
  split
  · rcases Nat.lt_or_ge j.toNat xs.length with h1 | h1
    · rw [getD_lt _ _ h1]; exact h _ (List.getElem_mem h1)
    · rw [List.getD_eq_getElem?_getD, List.getElem?_eq_none h1]; exact h0
  · exact h0
theorem delayed_ok {xs : List Int} {d : Int} (h : streamErr xs = 0) : streamErr (delayed xs d) = 0 := by
  obtain ⟨h1, h2⟩ := streamErr_zero h
  apply streamErr_ok
  · rw [delayed_len]; exact h1
  · intro x hx
    unfold delayed at hx
    obtain ⟨k, _, rfl⟩ := List.mem_map.1 hx
    exact extI_mem (fun x => 0 ≤ digitOf x) (by decide) h2 _
/-- There and back: the samples at the ends are lost. -/
theorem back_at {xs : List Int} {d : Int} {k : Nat} (hk : k < xs.length) : (delayed (delayed xs d) (-d)).getD k 0 = if (k : Int) + d < 0 ∨ (xs.length : Int) ≤ (k : Int) + d then 0 else xs.getD k 0 := by
  rw [delayed_at (by rw [delayed_len]; exact hk), show (k : Int) - -d = (k : Int) + d by omega]
  split
  · rename_i h
    exact extI_out (by rw [delayed_len]; exact h)
  · rename_i h
    unfold extI
    rw [if_pos (by omega), delayed_at (by omega)]
    have e : (((k : Int) + d).toNat : Int) - d = (k : Int) := by omega
    rw [e]
    unfold extI
    rw [if_pos (by omega)]
    rfl
end Go.Proofs.Ytbejkfeloffccaa
