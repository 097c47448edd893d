/-
  Runs of missing samples: as the program gathers them, and as the reference does. Plain lists, no program in sight.
-/
import Derived.Test.YtbejkfeloffccaaAlignA
namespace Go.Proofs.Ytbejkfeloffccaa
set_option linter.unusedVariables false

/-- One more sample in the last run. -/
def bump (l : List (Int × Int)) : List (Int × Int) := l.set (l.length - 1) ((l.getD (l.length - 1) (0, 0)).1, (l.getD (l.length - 1) (0, 0)).2 + 1)
def gapsTo (xs : List Int) : Nat → List (Int × Int)
  | 0 => []
  | k + 1 => if xs.getD k 0 ≠ 0 then gapsTo xs k else if 0 < k ∧ xs.getD (k - 1) 0 = 0 then bump (gapsTo xs k) else gapsTo xs k ++ [((k : Int), 1)]
/-- How many samples are missing from k on without one between them. -/
def runLen (xs : List Int) (k : Nat) : Nat := ((xs.drop k).takeWhile (fun x => x == 0)).length
def gapsRef (xs : List Int) : Nat → List (Int × Int)
  | 0 => []
  | k + 1 => if xs.getD k 0 ≠ 0 ∨ (0 < k ∧ xs.getD (k - 1) 0 = 0) then gapsRef xs k else gapsRef xs k ++ [((k : Int), (runLen xs k : Int))]
theorem bump_snoc (l : List (Int × Int)) (a b : Int) : bump (l ++ [(a, b)]) = l ++ [(a, b + 1)] := by
  unfold bump
  have e : (l ++ [(a, b)]).length - 1 = l.length := by simp
  rw [e, getD_lt _ _ (by simp)]
  simp
theorem runLen_eq {xs : List Int} {s K : Nat} (hsK : s ≤ K) (hK : K ≤ xs.length) (h0 : ∀ i, s ≤ i → i < K → xs.getD i 0 = 0) (h1 : K = xs.length ∨ xs.getD K 0 ≠ 0) : runLen xs s = K - s := by
  unfold runLen
  have e : xs.drop s = (xs.drop s).take (K - s) ++ xs.drop K := by
    have := (List.take_append_drop (K - s) (xs.drop s)).symm
    rw [List.drop_drop] at this
    rwa [show s + (K - s) = K by omega] at this
  have hall : ∀ x ∈ (xs.drop s).take (K - s), (x == 0) = true := by
    intro x hx
    obtain ⟨i, hi, rfl⟩ := List.mem_iff_getElem.1 hx
    simp at hi
    have := h0 (s + i) (by omega) (by omega)
    rw [getD_lt _ _ (by omega)] at this
    simpa using this
  rw [e, List.takeWhile_append_of_pos hall]
  have hz : (xs.drop K).takeWhile (fun x => x == 0) = [] := by
    rcases h1 with h1 | h1
    · rw [h1]; simp
    · rcases Nat.lt_or_ge K xs.length with h2 | h2
      · rw [getD_lt _ _ h2] at h1
        rw [List.drop_eq_getElem_cons h2, List.takeWhile_cons, if_neg (by simpa using h1)]
      · rw [List.drop_of_length_le h2]; simp
  rw [hz]
  simp
  omega
theorem gaps_inv (xs : List Int) : ∀ K, K ≤ xs.length → ((K = 0 ∨ xs.getD (K - 1) 0 ≠ 0) → gapsTo xs K = gapsRef xs K) ∧ ((0 < K ∧ xs.getD (K - 1) 0 = 0) → ∃ ini s, s < K ∧ gapsTo xs K = ini ++ [((s : Int), (K : Int) - s)] ∧ gapsRef xs K = ini ++ [((s : Int), (runLen xs s : Int))] ∧ ∀ i, s ≤ i → i < K → xs.getD i 0 = 0) := by
  intro K
  induction K with
  | zero => intro _; exact ⟨fun _ => rfl, fun h => absurd h.1 (by omega)⟩
  | succ K ih =>
    intro hK
    obtain ⟨ih1, ih2⟩ := ih (by omega)
    simp only [Nat.add_sub_cancel]
    refine ⟨fun h => ?_, fun h => ?_⟩
    · have hne : xs.getD K 0 ≠ 0 := by
        rcases h with h | h
        · omega
        · exact h
      rw [gapsTo, if_pos hne, gapsRef, if_pos (.inl hne)]
      by_cases h2 : 0 < K ∧ xs.getD (K - 1) 0 = 0
      · obtain ⟨ini, s, hs, e1, e2, hz⟩ := ih2 h2
        rw [e1, e2, runLen_eq (by omega) (by omega) hz (.inr hne)]
        have : ((K - s : Nat) : Int) = (K : Int) - s := by omega
        rw [this]
      · exact ih1 (by
          rcases Nat.eq_zero_or_pos K with h3 | h3
          · exact .inl h3
          · exact .inr (fun h4 => h2 ⟨h3, h4⟩))
    · obtain ⟨_, hz0⟩ := h
      by_cases h2 : 0 < K ∧ xs.getD (K - 1) 0 = 0
      · obtain ⟨ini, s, hs, e1, e2, hz⟩ := ih2 h2
        refine ⟨ini, s, by omega, ?_, ?_, ?_⟩
        · rw [gapsTo, if_neg (by simp [-List.getD_eq_getElem?_getD, hz0]), if_pos h2, e1, bump_snoc]
          have : (K : Int) - s + 1 = ((K + 1 : Nat) : Int) - s := by omega
          rw [this]
        · rw [gapsRef, if_pos (.inr h2), e2]
        · intro i h3 h4
          rcases Nat.lt_or_ge i K with h5 | h5
          · exact hz i h3 h5
          · obtain rfl : i = K := by omega
            exact hz0
      · have e := ih1 (by
          rcases Nat.eq_zero_or_pos K with h3 | h3
          · exact .inl h3
          · exact .inr (fun h4 => h2 ⟨h3, h4⟩))
        refine ⟨gapsRef xs K, K, by omega, ?_, ?_, ?_⟩
        · rw [gapsTo, if_neg (by simp [-List.getD_eq_getElem?_getD, hz0]), if_neg h2, e]
          have : ((K + 1 : Nat) : Int) - K = 1 := by omega
          rw [this]
        · rw [gapsRef, if_neg (fun h5 => h5.elim (fun h6 => h6 hz0) h2)]
        · intro i h3 h4
          obtain rfl : i = K := by omega
          exact hz0
theorem gaps_same (xs : List Int) : gapsRef xs xs.length = gapsTo xs xs.length := by
  obtain ⟨h1, h2⟩ := gaps_inv xs xs.length (Nat.le_refl _)
  by_cases h : 0 < xs.length ∧ xs.getD (xs.length - 1) 0 = 0
  · obtain ⟨ini, s, hs, e1, e2, hz⟩ := h2 h
    rw [e1, e2, runLen_eq (by omega) (Nat.le_refl _) hz (.inl rfl)]
    have : ((xs.length - s : Nat) : Int) = (xs.length : Int) - s := by omega
    rw [this]
  · exact (h1 (by
      rcases Nat.eq_zero_or_pos xs.length with h3 | h3
      · exact .inl h3
      · exact .inr (fun h4 => h ⟨h3, h4⟩))).symm
theorem gapsTo_pos {xs : List Int} {K : Nat} (hK : K ≤ xs.length) (h : 0 < K ∧ xs.getD (K - 1) 0 = 0) : 0 < (gapsTo xs K).length := by
  obtain ⟨ini, s, _, e, _⟩ := (gaps_inv xs K hK).2 h
  rw [e]; simp
theorem gapsTo_len (xs : List Int) (K : Nat) : (gapsTo xs K).length ≤ K := by
  induction K with
  | zero => simp [gapsTo]
  | succ K ih =>
    unfold gapsTo
    split
    · omega
    · split
      · simp [bump]; omega
      · simp; omega
theorem gapsRef_len (xs : List Int) (K : Nat) : (gapsRef xs K).length ≤ K := by
  induction K with
  | zero => simp [gapsRef]
  | succ K ih =>
    unfold gapsRef
    split
    · omega
    · simp; omega
/-- The numbers of gaps are small. -/
theorem gapsTo_bd (xs : List Int) (K : Nat) : ∀ x ∈ gapsTo xs K, 0 ≤ x.1 ∧ x.1 < K ∧ 1 ≤ x.2 ∧ x.2 ≤ K := by
  induction K with
  | zero => simp [gapsTo]
  | succ K ih =>
    intro x hx
    unfold gapsTo at hx
    split at hx
    · have := ih x hx; omega
    · split at hx
      · unfold bump at hx
        rcases List.mem_or_eq_of_mem_set hx with h | h
        · have := ih x h; omega
        · rcases Nat.eq_zero_or_pos (gapsTo xs K).length with h2 | h2
          · have h3 : gapsTo xs K = [] := List.eq_nil_of_length_eq_zero h2
            rw [h3] at hx
            simp at hx
          · have h3 := ih _ (List.getElem_mem (show (gapsTo xs K).length - 1 < (gapsTo xs K).length by omega))
            rw [getD_lt _ _ (by omega)] at h
            rw [h]
            simp only []
            omega
      · rcases List.mem_append.1 hx with h | h
        · have := ih x h; omega
        · simp at h; subst h; simp only []; omega
def gapsSpec (xs : List Int) : List (Int × Int) × Int := if streamErr xs ≠ 0 then ([], streamErr xs) else (gapsTo xs xs.length, 0)
theorem gaps_err {xs : List Int} (h : ¬ streamErr xs = 0) : gapsSpec xs = ([], streamErr xs) := by simp [gapsSpec, h]
theorem gaps_ok {xs : List Int} (h : streamErr xs = 0) : gapsSpec xs = (gapsTo xs xs.length, 0) := by simp [gapsSpec, h]
end Go.Proofs.Ytbejkfeloffccaa
