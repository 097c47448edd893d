import Derived.Test.YtnhjeelcgfobnaaNumD1
import Derived.Test.YtnhjeelcgfobnaaNumD2
import Derived.Test.YtnhjeelcgfobnaaNumD3
namespace Go.Proofs.Ytnhjeelcgfobnaa.Num

theorem pt_mem {p : Nat} (hp : Pr p) (h11 : 11 ≤ p) (h : p ≤ 44721) : p ∈ PT := mem_of_wk wk_ok sm_ok hp h11 (by omega)

theorem tt_mem {p : Nat} (hp : Pr p) (h11 : 11 ≤ p) (h : p < 13500) : ∃ L c, (p, L, c) ∈ TT := by
  have := mem_of_wk wkT_ok smT_ok hp h11 (by omega)
  obtain ⟨⟨a, L, c⟩, h1, h2⟩ := List.mem_map.1 this
  exact ⟨L, c, by rw [← h2]; exact h1⟩

theorem tt_ent {p L c : Nat} (h : (p, L, c) ∈ TT) : entOk p L c = true := by
  unfold TT at h
  simp only [List.mem_append] at h
  rcases h with h | h | h | h | h | h | h | h
  · exact allEnt_at ent_ok0 h
  · exact allEnt_at ent_ok1 h
  · exact allEnt_at ent_ok2 h
  · exact allEnt_at ent_ok3 h
  · exact allEnt_at ent_ok4 h
  · exact allEnt_at ent_ok5 h
  · exact allEnt_at ent_ok6 h
  · exact allEnt_at ent_ok7 h

theorem tt_inner {p L c : Nat} (h : (p, L, c) ∈ TT) : inner p L c TT = true := by
  have h' := h
  unfold TT at h
  simp only [List.mem_append] at h
  rcases h with h | h | h | h | h | h | h | h
  · exact outer_at outer_ok0 h
  · exact outer_at outer_ok1 h
  · exact outer_at outer_ok2 h
  · exact outer_at outer_ok3 h
  · exact outer_at outer_ok4 h
  · exact outer_at outer_ok5 h
  · exact outer_at outer_ok6 h
  · exact outer_at outer_ok7 h

theorem pr_small {a : Nat} (h : a = 2 ∨ a = 3 ∨ a = 5 ∨ a = 7) : Pr a := by
  have key : ∀ a, 2 ≤ a → a < 9 → (∀ d, d < 3 → 2 ≤ d → a % d ≠ 0) → Pr a := by
    intro a h2 h9 hd
    refine pr_trial h2 (fun d hd2 hdd hdv => ?_)
    have : d < 3 := by
      apply Classical.byContradiction
      intro hc
      have := Nat.mul_le_mul (show 3 ≤ d by omega) (show 3 ≤ d by omega)
      omega
    exact hd d this hd2 (Nat.mod_eq_zero_of_dvd hdv)
  rcases h with rfl | rfl | rfl | rfl
  · refine pr_trial (by omega) (fun d hd2 hdd _ => ?_)
    have := Nat.mul_le_mul hd2 hd2
    omega
  · exact key 3 (by omega) (by omega) (fun d h1 h2 => by rw [show d = 2 by omega]; decide)
  · exact key 5 (by omega) (by omega) (fun d h1 h2 => by rw [show d = 2 by omega]; decide)
  · exact key 7 (by omega) (by omega) (fun d h1 h2 => by rw [show d = 2 by omega]; decide)

theorem pr_ge {p : Nat} (hp : Pr p) (h2 : ¬ 2 ∣ p) (h3 : ¬ 3 ∣ p) (h5 : ¬ 5 ∣ p) (h7 : ¬ 7 ∣ p) : 11 ≤ p := by
  have := hp.1
  apply Classical.byContradiction
  intro hc
  have : p = 2 ∨ p = 3 ∨ p = 4 ∨ p = 5 ∨ p = 6 ∨ p = 7 ∨ p = 8 ∨ p = 9 ∨ p = 10 := by omega
  rcases this with rfl | rfl | rfl | rfl | rfl | rfl | rfl | rfl | rfl
  · exact h2 (by decide)
  · exact h3 (by decide)
  · exact h2 (by decide)
  · exact h5 (by decide)
  · exact h2 (by decide)
  · exact h7 (by decide)
  · exact h2 (by decide)
  · exact h3 (by decide)
  · exact h2 (by decide)

/-- a number of at most 2 * 10^9 that passes with 2, 3, 5, 7, and that none of them divides, is a prime number -/
theorem passes_pr {n : Nat} (hn2 : 2 ≤ n) (hn : n ≤ 2000000000) (h2 : ¬ 2 ∣ n) (h3 : ¬ 3 ∣ n) (h5 : ¬ 5 ∣ n) (h7 : ¬ 7 ∣ n) (hp : passes n = true) : Pr n := by
  apply Classical.byContradiction
  intro hnot
  have hn3 : 3 ≤ n := by
    apply Classical.byContradiction
    intro hc
    have : n = 2 := by omega
    exact h2 (by rw [this]; decide)
  have h4n := passes_four hn3 (by omega) hp
  have ge11 : ∀ p, Pr p → p ∣ n → 11 ≤ p := fun p hpp hd =>
    pr_ge hpp (fun h => h2 (Nat.dvd_trans h hd)) (fun h => h3 (Nat.dvd_trans h hd)) (fun h => h5 (Nat.dvd_trans h hd)) (fun h => h7 (Nat.dvd_trans h hd))
  have ndv : ∀ p a, Pr p → p ∣ n → a = 2 ∨ a = 3 ∨ a = 5 ∨ a = 7 → ¬ p ∣ a := by
    intro p a hpp hd ha hpa
    have := ge11 p hpp hd
    have := Nat.le_of_dvd (by omega) hpa
    omega
  -- no square
  have nosq : ∀ p, Pr p → ¬ p * p ∣ n := by
    intro p hpp hd
    have hpn : p ∣ n := Nat.dvd_trans ⟨p, rfl⟩ hd
    have hle := Nat.le_of_dvd (by omega) hd
    have hp1 : p ≤ 44721 := by
      apply Classical.byContradiction
      intro hc
      have := Nat.mul_le_mul (show 44722 ≤ p by omega) (show 44722 ≤ p by omega)
      omega
    have hs := noSq_at noSq_ok (pt_mem hpp (ge11 p hpp hpn) hp1)
    have x2 := no_square hn2 hpp (ndv p 2 hpp hpn (by omega)) hd h4n.1
    have x3 := no_square hn2 hpp (ndv p 3 hpp hpn (by omega)) hd h4n.2.1
    unfold sqf at hs
    rw [pm_eq (by omega), pm_eq (by omega), x2, x3] at hs
    exact Bool.noConfusion hs
  obtain ⟨r, hr, hrn, hrmin⟩ := exists_least hn2
  obtain ⟨m, hm⟩ := hrn
  have hr11 := ge11 r hr ⟨m, hm⟩
  have hm0 : m ≠ 0 := by rintro rfl; omega
  have hm1 : m ≠ 1 := by rintro rfl; rw [Nat.mul_one] at hm; rw [hm] at hnot; exact hnot hr
  obtain ⟨q, hq, hqm, hqmin⟩ := exists_least (n := m) (by omega)
  have hqn : q ∣ n := Nat.dvd_trans hqm ⟨r, by rw [hm, Nat.mul_comm]⟩
  have hrq : r ≤ q := hrmin q hq hqn
  have hrq' : r ≠ q := by
    rintro rfl
    obtain ⟨c, hc⟩ := hqm
    exact nosq r hr ⟨c, by rw [hm, hc, Nat.mul_assoc]⟩
  obtain ⟨s, hs⟩ := hqm
  have hs0 : s ≠ 0 := by rintro rfl; omega
  have hrqn : r * q ≤ n := by
    rw [hm, hs, ← Nat.mul_assoc]
    exact Nat.le_mul_of_pos_right _ (by omega)
  have hr1 : r ≤ 44721 := by
    apply Classical.byContradiction
    intro hc
    have := Nat.mul_le_mul (show 44722 ≤ r by omega) (show 44722 ≤ q by omega)
    omega
  by_cases hs1 : s = 1
  · subst hs1
    rw [Nat.mul_one] at hs
    subst hs
    subst hm
    have hP210 : ∀ x, Pr x → x ∣ 210 → x ≤ 10 := by
      intro x hx hd
      have e : (210 : Nat) = mulAll [2, 3, 5, 7] := rfl
      rw [e] at hd
      obtain ⟨y, hy, hxy⟩ := hx.dvd_mulAll hd
      have : 0 < y ∧ y ≤ 10 := by
        revert hy; simp only [List.mem_cons, List.not_mem_nil, or_false]; rintro (rfl | rfl | rfl | rfl) <;> omega
      have := Nat.le_of_dvd this.1 hxy
      omega
    obtain ⟨P', l', a1, a2⟩ := semi_at ascN_ok hP210 semi_ok (pt_mem hr hr11 hr1)
    have h4q : four m (r * m - 1) := four_of_dvd (by omega) hq.1 hqn h4n
    have h4 : four m (r - 1) := ⟨cofactor (by omega) hq (ndv m 2 hq hqn (by omega)) h4q.1, cofactor (by omega) hq (ndv m 3 hq hqn (by omega)) h4q.2.1,
      cofactor (by omega) hq (ndv m 5 hq hqn (by omega)) h4q.2.2.1, cofactor (by omega) hq (ndv m 7 hq hqn (by omega)) h4q.2.2.2⟩
    have := semi1_at a1 hq (by omega) a2 h4 hn
    rw [this] at hp
    exact Bool.noConfusion hp
  · obtain ⟨u, hu, hus⟩ := exists_pr (n := s) (by omega)
    have hum : u ∣ m := Nat.dvd_trans hus ⟨q, by rw [hs, Nat.mul_comm]⟩
    have huq : q ≤ u := hqmin u hu hum
    have hus' := Nat.le_of_dvd (by omega) hus
    have hqq : r * q * q ≤ 2000000000 := by
      refine Nat.le_trans (Nat.mul_le_mul_left (r * q) (Nat.le_trans huq hus')) ?_
      rw [Nat.mul_assoc, ← hs, ← hm]; exact hn
    have hq13 : q < 13500 := by
      apply Classical.byContradiction
      intro hc
      have a1 := Nat.mul_le_mul hr11 (show 13500 ≤ q by omega)
      have a2 := Nat.mul_le_mul a1 (show 13500 ≤ q by omega)
      omega
    obtain ⟨L, c, hrT⟩ := tt_mem hr hr11 (by omega)
    obtain ⟨M, d, hqT⟩ := tt_mem hq (by omega) hq13
    obtain ⟨er, or⟩ := entOk_ent (tt_ent hrT)
    obtain ⟨eq, oq⟩ := entOk_ent (tt_ent hqT)
    have hrn : r ∣ n := ⟨m, hm⟩
    have hcd : c = d := ent_same hn3 (by omega) hp (by omega) (by omega) hrn hqn er eq
    have hpair := inner_at asc_ok (tt_inner hqT) hrT (by omega) hqq
    subst hcd
    unfold pairOk at hpair
    rw [beq_iff.2 rfl, cond_true] at hpair
    have d1 : L ∣ n - 1 := ordOk_dvd hr.1 or (four_of_dvd hn2 hr.1 hrn h4n)
    have d2 : M ∣ n - 1 := ordOk_dvd hq.1 oq (four_of_dvd hn2 hq.1 hqn h4n)
    have en : n = r * q * s := by rw [hm, hs, Nat.mul_assoc]
    have := pairA_at hpair (s := s) (by rw [← en]; exact hn) (by rw [← en]; omega) (by rw [← en]; exact Nat.lcm_dvd d1 d2)
    rw [← en, hp] at this
    exact Bool.noConfusion this

end Go.Proofs.Ytnhjeelcgfobnaa.Num
