/-
  The laws of lags: totals, streams exchanged, peaks, streams cut and moved. Plain lists, no program in sight.
-/
import Derived.Test.YtfmhliiljmcejaaLagM
import Derived.Test.YtfmhliiljmcejaaLagH
namespace Go.Proofs.Ytfmhliiljmcejaa
set_option linter.unusedVariables false

theorem sumP_sums (l : List (Int × Int)) : sumP l = (sumR (fun t => (l.getD t (0, 0)).1) l.length, sumR (fun t => (l.getD t (0, 0)).2) l.length) := by
  have h : ∀ k, k ≤ l.length → sumP (l.take k) = (sumR (fun t => (l.getD t (0, 0)).1) k, sumR (fun t => (l.getD t (0, 0)).2) k) := by
    intro k
    induction k with
    | zero => intro _; rfl
    | succ k ih =>
      intro hk
      rw [sumP_take (by omega), ih (by omega), sumR_succ, sumR_succ, getD_lt _ _ (show k < l.length by omega)]
  have := h l.length (Nat.le_refl _)
  rwa [List.take_length] at this
theorem pairSum_all (f : Nat → Nat → Int) {n m h : Nat} (hn : n ≤ h + 1) (hm : m ≤ h + 1) : sumR (fun t => pairSum f n m ((t : Int) - h)) (2 * h + 1) = sumR (fun i => sumR (fun k => f i k) m) n := by
  unfold pairSum
  rw [sumR_comm]
  refine sumR_congr (fun i hi => ?_)
  rw [sumR_comm]
  refine sumR_congr (fun k hk => ?_)
  rw [sumR_one (k := k + h - i) (by omega) (fun t ht hne => if_neg (by omega)), if_pos (by omega)]
def sumL (xs : List Int) : Int := sumR (fun i => xs.getD i 0) xs.length
def cntL (xs : List Int) : Int := sumR (fun i => nz (xs.getD i 0)) xs.length
theorem sum_prod (f g : Nat → Int) (n m : Nat) : sumR (fun i => sumR (fun k => f i * g k) m) n = sumR f n * sumR g m := by
  rw [sumR_congr (fun i _ => sumR_mul (f i) g m), sumR_mul_right]
/-- The stage's theorem. -/
theorem total_law {xs ys : List Int} {m : Nat} (hx : xs.length ≤ m + 1) (hy : ys.length ≤ m + 1) : sumP (lagCells xs ys m) = (sumL xs * sumL ys, cntL xs * cntL ys) := by
  rw [sumP_sums, lagCells_len]
  have e1 : sumR (fun t => ((lagCells xs ys m).getD t (0, 0)).1) (2 * m + 1) = sumR (fun t => pairSum (prodF xs ys) xs.length ys.length ((t : Int) - m)) (2 * m + 1) := sumR_congr (fun t ht => by rw [lagCells_at ht])
  have e2 : sumR (fun t => ((lagCells xs ys m).getD t (0, 0)).2) (2 * m + 1) = sumR (fun t => pairSum (cntF xs ys) xs.length ys.length ((t : Int) - m)) (2 * m + 1) := sumR_congr (fun t ht => by rw [lagCells_at ht])
  rw [e1, e2, pairSum_all _ hx hy, pairSum_all _ hx hy]
  unfold prodF cntF sumL cntL
  rw [sum_prod (fun i => xs.getD i 0) (fun k => ys.getD k 0), sum_prod (fun i => nz (xs.getD i 0)) (fun k => nz (ys.getD k 0))]

theorem pairSum_swap (f : Nat → Nat → Int) (n m : Nat) (d : Int) : pairSum f n m d = pairSum (fun k i => f i k) m n (-d) := by
  unfold pairSum
  rw [sumR_comm]
  refine sumR_congr (fun k hk => sumR_congr (fun i hi => ?_))
  by_cases h : (k : Int) - i = d
  · rw [if_pos h, if_pos (by omega)]
  · rw [if_neg h, if_neg (by omega)]
theorem flip_law (xs ys : List Int) (m : Nat) : (lagCells ys xs m).reverse = lagCells xs ys m := by
  apply plist_eq (d := (0, 0)) (by simp [lagCells_len])
  intro t ht
  rw [List.length_reverse, lagCells_len] at ht
  rw [lagCells_at ht, getD_lt _ _ (by rw [List.length_reverse, lagCells_len]; exact ht), List.getElem_reverse]
  have h2 := lagCells_at (xs := ys) (ys := xs) (m := m) (t := 2 * m - t) (by omega)
  rw [getD_lt _ _ (by rw [lagCells_len]; omega)] at h2
  have e : (lagCells ys xs m)[(lagCells ys xs m).length - 1 - t]'(by rw [lagCells_len]; omega) = (lagCells ys xs m)[2 * m - t]'(by rw [lagCells_len]; omega) := by
    congr 1
    rw [lagCells_len]; omega
  rw [e, h2]
  have d1 : (((2 * m - t : Nat) : Int) - m) = -((t : Int) - m) := by omega
  rw [d1, pairSum_swap (prodF xs ys), pairSum_swap (cntF xs ys)]
  have f1 : prodF ys xs = fun k i => prodF xs ys i k := by funext k i; simp [prodF, Int.mul_comm]
  have f2 : cntF ys xs = fun k i => cntF xs ys i k := by funext k i; simp [cntF, Int.mul_comm]
  rw [f1, f2]

theorem sqle (a b : Int) : 2 * (a * b) ≤ a * a + b * b := by
  have h : 0 ≤ (a - b) * (a - b) := by
    rw [← Int.natAbs_mul_self]; exact Int.natCast_nonneg _
  have e : (a - b) * (a - b) = a * a - 2 * (a * b) + b * b := by
    rw [Int.sub_mul, Int.mul_sub, Int.mul_sub, Int.mul_comm b a]; omega
  omega
theorem sq_nonneg (a : Int) : 0 ≤ a * a := by rw [← Int.natAbs_mul_self]; exact Int.natCast_nonneg _
theorem pairSum_left {f : Nat → Int} (hf : ∀ i, 0 ≤ f i) (n m : Nat) (d : Int) : pairSum (fun i _ => f i) n m d ≤ sumR f n := by
  unfold pairSum
  refine sumR_le (fun i hi => ?_)
  rw [inner_one (f := fun _ => f i)]
  have := hf i
  split <;> omega
theorem pairSum_right {f : Nat → Int} (hf : ∀ i, 0 ≤ f i) (n m : Nat) (d : Int) : pairSum (fun _ k => f k) n m d ≤ sumR f m := by
  rw [pairSum_swap]
  exact pairSum_left hf m n (-d)
theorem pairSum_add (f g : Nat → Nat → Int) (n m : Nat) (d : Int) : pairSum (fun i k => f i k + g i k) n m d = pairSum f n m d + pairSum g n m d := by
  unfold pairSum
  rw [← sumR_add]
  refine sumR_congr (fun i hi => ?_)
  rw [← sumR_add]
  refine sumR_congr (fun k hk => ?_)
  split <;> rfl
theorem pairSum_diag (f : Nat → Nat → Int) (n : Nat) : pairSum f n n 0 = sumR (fun i => f i i) n := by
  unfold pairSum
  refine sumR_congr (fun i hi => ?_)
  rw [sumR_one (k := i) hi (fun k hk hne => if_neg (by omega)), if_pos (by omega)]
theorem auto_le (xs : List Int) (d : Int) : pairSum (prodF xs xs) xs.length xs.length d ≤ pairSum (prodF xs xs) xs.length xs.length 0 := by
  have h1 : 2 * pairSum (prodF xs xs) xs.length xs.length d ≤ pairSum (fun i k => xs.getD i 0 * xs.getD i 0 + xs.getD k 0 * xs.getD k 0) xs.length xs.length d := by
    unfold pairSum
    rw [← sumR_mul]
    refine sumR_le (fun i hi => ?_)
    rw [← sumR_mul]
    refine sumR_le (fun k hk => ?_)
    have := sqle (xs.getD i 0) (xs.getD k 0)
    unfold prodF
    split <;> omega
  rw [pairSum_add (fun i _ => xs.getD i 0 * xs.getD i 0) (fun _ k => xs.getD k 0 * xs.getD k 0)] at h1
  have h2 := pairSum_left (f := fun i => xs.getD i 0 * xs.getD i 0) (fun i => sq_nonneg _) xs.length xs.length d
  have h3 := pairSum_right (f := fun i => xs.getD i 0 * xs.getD i 0) (fun i => sq_nonneg _) xs.length xs.length d
  rw [pairSum_diag]
  unfold prodF at *
  omega
theorem cnt_sq (x : Int) : nz x * nz x = nz x := by unfold nz; split <;> rfl
theorem nz_nonneg (x : Int) : 0 ≤ nz x := by unfold nz; split <;> omega
theorem sumR_nonneg {f : Nat → Int} {n : Nat} (h : ∀ i, i < n → 0 ≤ f i) : 0 ≤ sumR f n := by
  have := sumR_le (f := fun _ => 0) (g := f) (n := n) h
  rw [sumR_const] at this
  simpa using this
theorem sumR_term {f : Nat → Int} {n k : Nat} (h : ∀ i, i < n → 0 ≤ f i) (hk : k < n) : f k ≤ sumR f n := by
  induction n with
  | zero => omega
  | succ n ih =>
    rw [sumR_succ]
    rcases Nat.lt_or_ge k n with h1 | h1
    · have := ih (fun i hi => h i (by omega)) h1; have := h n (by omega); omega
    · obtain rfl : k = n := by omega
      have := sumR_nonneg (f := f) (n := k) (fun i hi => h i (by omega)); omega
/-- The peak of a stream with itself. -/
theorem peak_law {xs : List Int} (hx : streamErr xs = 0) {m : Nat} (hm : m ≤ 255) : peakSpec (lagCells xs xs m) = if xs.all (fun x => x == 0) then (0, 18) else (0, 0) := by
  have he := lagErr_cells hx hx hm
  have hl : (lagCells xs xs m).length = 2 * m + 1 := lagCells_len _ _ _
  have hmid : (lagCells xs xs m).getD m (0, 0) = (pairSum (prodF xs xs) xs.length xs.length 0, pairSum (cntF xs xs) xs.length xs.length 0) := by
    rw [lagCells_at (by omega)]
    simp
  split
  · rename_i h
    simp only [List.all_eq_true, beq_iff_eq] at h
    have h0 : ∀ i, xs.getD i 0 = 0 := by
      intro i
      rcases Nat.lt_or_ge i xs.length with h1 | h1
      · rw [getD_lt _ _ h1]; exact h _ (List.getElem_mem h1)
      · simp [List.getD_eq_getElem?_getD, List.getElem?_eq_none h1]
    refine peak_zero he ?_
    rw [sumP_sums]
    simp only []
    rw [hl]
    refine sumR_zero (fun t ht => ?_)
    rw [lagCells_at ht]
    simp only [pairSum]
    refine sumR_zero (fun i hi => sumR_zero (fun k hk => ?_))
    simp [cntF, nz, h0, -List.getD_eq_getElem?_getD]
  · rename_i h
    have hne : ¬ (sumP (lagCells xs xs m)).2 = 0 := by
      simp only [Bool.not_eq_true, List.all_eq_false, beq_iff_eq] at h
      obtain ⟨x, hxm, hx0⟩ := h
      obtain ⟨i, hi, rfl⟩ := List.mem_iff_getElem.1 hxm
      rw [sumP_sums]
      simp only []
      rw [hl]
      have hnn : ∀ t, t < 2 * m + 1 → 0 ≤ ((lagCells xs xs m).getD t (0, 0)).2 := by
        intro t ht
        rw [getD_lt _ _ (by rw [hl]; exact ht)]
        exact (okLag_bd (lagCells_ok hx hx _ (List.getElem_mem (by rw [hl]; exact ht)))).1
      have h1 := sumR_term (f := fun t => ((lagCells xs xs m).getD t (0, 0)).2) (k := m) hnn (by omega)
      simp only [hmid] at h1
      rw [pairSum_diag] at h1
      have h2 := sumR_term (f := fun i => cntF xs xs i i) (n := xs.length) (k := i) (fun j _ => (cnt_01 xs xs j j).1) hi
      have h3 : cntF xs xs i i = 1 := by
        unfold cntF
        rw [cnt_sq, getD_lt _ _ hi]
        simp [nz, hx0]
      omega
    have hb : bestIx (lagCells xs xs m) (lagCells xs xs m).length = m := by
      refine best_uniq (by rw [hl]; omega) (fun j hj => ?_)
      rw [hl] at hj
      rw [ahead_no, hmid, lagCells_at hj]
      have h1 := auto_le xs ((j : Int) - m)
      have e0 : qd (lagCells xs xs m) m = 0 := by
        unfold qd
        rw [hl]
        have : (m : Int) - ((2 * m + 1 : Nat) : Int) / 2 = 0 := by omega
        rw [this]; rfl
      have e1 : 0 ≤ qd (lagCells xs xs m) j := sq_nonneg _
      have e2 : qd (lagCells xs xs m) j = 0 → ¬ j < m := by
        intro h2 h3
        have h4 : qd (lagCells xs xs m) m < qd (lagCells xs xs m) j := sq_lt (by rw [hl]; omega)
        omega
      simp only []
      omega
    rw [peak_ok he hne, hb, hl]
    congr 1
    omega
end Go.Proofs.Ytfmhliiljmcejaa
