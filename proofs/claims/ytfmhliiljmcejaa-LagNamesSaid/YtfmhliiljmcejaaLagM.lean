/-
  What the lags are: sums over all pairs of samples. Plain lists, no program in sight.
-/
import Derived.Test.YtfmhliiljmcejaaLagOfP
import Derived.Test.YtfmhliiljmcejaaLagB
import Derived.Test.YtfmhliiljmcejaaSums
namespace Go.Proofs.Ytfmhliiljmcejaa
set_option linter.unusedVariables false

def nz (x : Int) : Int := if x = 0 then 0 else 1
/-- The sum over all pairs (i, k) with k - i = d. -/
def pairSum (f : Nat → Nat → Int) (n m : Nat) (d : Int) : Int := sumR (fun i => sumR (fun k => if (k : Int) - i = d then f i k else 0) m) n
def prodF (xs ys : List Int) (i k : Nat) : Int := xs.getD i 0 * ys.getD k 0
def cntF (xs ys : List Int) (i k : Nat) : Int := nz (xs.getD i 0) * nz (ys.getD k 0)

theorem upd_at {o : List (Int × Int)} {j t : Nat} {v : Int} (hj : j < o.length) (ht : t < o.length) : (upd o j v).getD t (0, 0) = if t = j then ((o.getD t (0, 0)).1 + v, (o.getD t (0, 0)).2 + 1) else o.getD t (0, 0) := by
  unfold upd
  rw [getD_lt _ _ (by simpa using ht), List.getElem_set]
  split
  · rename_i h; subst h; simp
  · rename_i h
    rw [if_neg (fun h2 => h h2.symm), getD_lt _ _ ht]
theorem hits_prod {xs ys : List Int} {m i k : Nat} (h : hits xs ys m i k = true) : cntF xs ys i k = 1 ∧ i ≤ k + m ∧ k ≤ i + m := by
  simp only [hits, decide_eq_true_eq] at h
  obtain ⟨h1, h2, h3, h4⟩ := h
  exact ⟨by simp [cntF, nz, -List.getD_eq_getElem?_getD, h1, h2], h3, h4⟩
theorem hits_none {xs ys : List Int} {m i k : Nat} (h : hits xs ys m i k = false) (h3 : i ≤ k + m) (h4 : k ≤ i + m) : prodF xs ys i k = 0 ∧ cntF xs ys i k = 0 := by
  simp only [hits, decide_eq_false_iff_not] at h
  rcases Decidable.em (xs.getD i 0 = 0) with h1 | h1
  · simp [prodF, cntF, nz, -List.getD_eq_getElem?_getD, h1]
  · rcases Decidable.em (ys.getD k 0 = 0) with h2 | h2
    · simp [prodF, cntF, nz, -List.getD_eq_getElem?_getD, h2]
    · exact absurd ⟨h1, h2, h3, h4⟩ h

theorem inSt_at {xs ys : List Int} {m i : Nat} {o : List (Int × Int)} (ho : o.length = 2 * m + 1) (k t : Nat) (ht : t < 2 * m + 1) :
    (inSt xs ys m i o k).getD t (0, 0) = ((o.getD t (0, 0)).1 + sumR (fun k => if (k : Int) - i = (t : Int) - m then prodF xs ys i k else 0) k, (o.getD t (0, 0)).2 + sumR (fun k => if (k : Int) - i = (t : Int) - m then cntF xs ys i k else 0) k) := by
  induction k with
  | zero => simp [inSt, sumR]
  | succ k ih =>
    rw [sumR_succ, sumR_succ]
    cases h : hits xs ys m i k with
    | true =>
      obtain ⟨h1, h2, h3⟩ := hits_prod h
      have hl : (inSt xs ys m i o k).length = 2 * m + 1 := by rw [inSt_len, ho]
      rw [inSt_yes h, upd_at (by rw [hl]; omega) (by rw [hl]; exact ht), ih]
      by_cases e : t = k + m - i
      · rw [if_pos e, if_pos (by omega), if_pos (by omega), h1]
        simp only [prodF, Int.add_assoc]
      · rw [if_neg e, if_neg (by omega), if_neg (by omega)]
        simp
    | false =>
      rw [inSt_no h, ih]
      by_cases e : (k : Int) - i = (t : Int) - m
      · obtain ⟨h1, h2⟩ := hits_none h (by omega) (by omega)
        rw [if_pos e, if_pos e, h1, h2]
        simp
      · rw [if_neg e, if_neg e]
        simp
theorem outSt_at {xs ys : List Int} {m : Nat} (i t : Nat) (ht : t < 2 * m + 1) :
    (outSt xs ys m i).getD t (0, 0) = (pairSum (prodF xs ys) i ys.length ((t : Int) - m), pairSum (cntF xs ys) i ys.length ((t : Int) - m)) := by
  induction i with
  | zero =>
    rw [outSt, getD_lt _ _ (by simpa using ht)]
    simp [pairSum, sumR]
  | succ i ih =>
    rw [outSt, inSt_at (outSt_len _ _ _ _) _ _ ht, ih]
    rfl
/-- Each lag is the sum over its pairs, and their number. -/
theorem lagCells_at {xs ys : List Int} {m t : Nat} (ht : t < 2 * m + 1) :
    (lagCells xs ys m).getD t (0, 0) = (pairSum (prodF xs ys) xs.length ys.length ((t : Int) - m), pairSum (cntF xs ys) xs.length ys.length ((t : Int) - m)) := outSt_at _ _ ht

/-- One pair at most for each i. -/
theorem inner_one {f : Nat → Int} {n i : Nat} {d : Int} : sumR (fun k => if (k : Int) - i = d then f k else 0) n = if 0 ≤ (i : Int) + d ∧ (i : Int) + d < n then f ((i : Int) + d).toNat else 0 := by
  by_cases h : 0 ≤ (i : Int) + d ∧ (i : Int) + d < n
  · rw [if_pos h, sumR_one (k := ((i : Int) + d).toNat) (by omega) (fun k hk hne => if_neg (by omega)), if_pos (by omega)]
  · rw [if_neg h]
    exact sumR_zero (fun k hk => if_neg (by omega))

theorem nz_01 (x : Int) : nz x = 0 ∨ nz x = 1 := by unfold nz; split <;> simp
theorem cnt_01 (xs ys : List Int) (i k : Nat) : 0 ≤ cntF xs ys i k ∧ cntF xs ys i k ≤ 1 := by
  unfold cntF
  rcases nz_01 (xs.getD i 0) with h | h <;> rcases nz_01 (ys.getD k 0) with h2 | h2 <;> rw [h, h2] <;> decide
theorem prod_cnt {xs ys : List Int} (hx : streamErr xs = 0) (hy : streamErr ys = 0) (i k : Nat) : -(9 * cntF xs ys i k) ≤ prodF xs ys i k ∧ prodF xs ys i k ≤ 9 * cntF xs ys i k ∧ (prodF xs ys i k - cntF xs ys i k) % 2 = 0 := by
  unfold prodF cntF
  rcases stream_at hx i with h | h | h | h | h <;> rcases stream_at hy k with h2 | h2 | h2 | h2 | h2 <;> rw [h, h2] <;> decide
theorem sumR_even {f : Nat → Int} {n : Nat} (h : ∀ i, i < n → f i % 2 = 0) : sumR f n % 2 = 0 := by
  induction n with
  | zero => rfl
  | succ n ih => rw [sumR_succ]; have := ih (fun i hi => h i (by omega)); have := h n (by omega); omega
/-- The lags of two streams are valid. -/
theorem lagCells_ok {xs ys : List Int} (hx : streamErr xs = 0) (hy : streamErr ys = 0) {m : Nat} : ∀ x ∈ lagCells xs ys m, okLag x = true := by
  intro x hxm
  obtain ⟨t, ht, rfl⟩ := List.mem_iff_getElem.1 hxm
  rw [lagCells_len] at ht
  have e := lagCells_at (xs := xs) (ys := ys) ht
  rw [getD_lt _ _ (by rw [lagCells_len]; exact ht)] at e
  rw [e]
  simp only [okLag, decide_eq_true_eq]
  have hlx := (streamErr_zero hx).1
  have c0 : ∀ i : Nat, 0 ≤ sumR (fun k => if (k : Int) - i = (t : Int) - m then cntF xs ys i k else 0) ys.length ∧ sumR (fun k => if (k : Int) - i = (t : Int) - m then cntF xs ys i k else 0) ys.length ≤ 1 := by
    intro i
    rw [inner_one]
    split
    · exact cnt_01 xs ys _ _
    · omega
  have e2 : ∀ (a b : Int), sumR (fun _ => (a : Int)) xs.length = xs.length * a := fun a _ => sumR_const a _
  have lo : 0 ≤ pairSum (cntF xs ys) xs.length ys.length ((t : Int) - m) := by
    have := sumR_le (f := fun _ => 0) (n := xs.length) (fun i hi => (c0 i).1)
    rw [e2 0 0] at this
    unfold pairSum
    simpa using this
  have hi : pairSum (cntF xs ys) xs.length ys.length ((t : Int) - m) ≤ 256 := by
    have := sumR_le (g := fun _ => 1) (n := xs.length) (fun i hi => (c0 i).2)
    rw [e2 1 0] at this
    unfold pairSum
    omega
  have l1 : pairSum (prodF xs ys) xs.length ys.length ((t : Int) - m) ≤ 9 * pairSum (cntF xs ys) xs.length ys.length ((t : Int) - m) := by
    unfold pairSum
    rw [← sumR_mul]
    refine sumR_le (fun i hi => ?_)
    rw [← sumR_mul]
    refine sumR_le (fun k hk => ?_)
    have := prod_cnt hx hy i k
    split <;> omega
  have l2 : -9 * pairSum (cntF xs ys) xs.length ys.length ((t : Int) - m) ≤ pairSum (prodF xs ys) xs.length ys.length ((t : Int) - m) := by
    unfold pairSum
    rw [← sumR_mul]
    refine sumR_le (fun i hi => ?_)
    rw [← sumR_mul]
    refine sumR_le (fun k hk => ?_)
    have := prod_cnt hx hy i k
    split <;> omega
  have par : (pairSum (prodF xs ys) xs.length ys.length ((t : Int) - m) - pairSum (cntF xs ys) xs.length ys.length ((t : Int) - m)) % 2 = 0 := by
    have h1 : pairSum (prodF xs ys) xs.length ys.length ((t : Int) - m) - pairSum (cntF xs ys) xs.length ys.length ((t : Int) - m) = sumR (fun i => sumR (fun k => (if (k : Int) - i = (t : Int) - m then prodF xs ys i k else 0) + -1 * (if (k : Int) - i = (t : Int) - m then cntF xs ys i k else 0)) ys.length) xs.length := by
      unfold pairSum
      have h2 : ∀ i : Nat, sumR (fun k => (if (k : Int) - i = (t : Int) - m then prodF xs ys i k else 0) + -1 * (if (k : Int) - i = (t : Int) - m then cntF xs ys i k else 0)) ys.length = sumR (fun k => if (k : Int) - i = (t : Int) - m then prodF xs ys i k else 0) ys.length + -1 * sumR (fun k => if (k : Int) - i = (t : Int) - m then cntF xs ys i k else 0) ys.length := by
        intro i
        rw [sumR_add, sumR_mul]
      rw [sumR_congr (fun i _ => h2 i), sumR_add, sumR_mul]
      omega
    rw [h1]
    refine sumR_even (fun i hi => sumR_even (fun k hk => ?_))
    have := prod_cnt hx hy i k
    split <;> omega
  exact ⟨lo, hi, l2, l1, par⟩
theorem lagErr_cells {xs ys : List Int} (hx : streamErr xs = 0) (hy : streamErr ys = 0) {m : Nat} (hm : m ≤ 255) : lagErr (lagCells xs ys m) = 0 :=
  lagErr_ok (by rw [lagCells_len]; omega) (by rw [lagCells_len]; omega) (lagCells_ok hx hy)
end Go.Proofs.Ytfmhliiljmcejaa
