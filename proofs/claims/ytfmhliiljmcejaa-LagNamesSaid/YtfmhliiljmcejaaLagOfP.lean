/-
  The lags of two streams, as both programs reckon them: plain lists, no program in sight.
-/
import Derived.Test.YtfmhliiljmcejaaSample
namespace Go.Proofs.Ytfmhliiljmcejaa
set_option linter.unusedVariables false

/-- One product more at place j. -/
def upd (o : List (Int × Int)) (j : Nat) (v : Int) : List (Int × Int) := o.set j ((o.getD j (0, 0)).1 + v, (o.getD j (0, 0)).2 + 1)
/-- Does the pair (i, k) of samples count, for lags up to m? -/
def hits (xs ys : List Int) (m i k : Nat) : Bool := decide (xs.getD i 0 ≠ 0 ∧ ys.getD k 0 ≠ 0 ∧ i ≤ k + m ∧ k ≤ i + m)
/-- The sums when the first k samples of ys have been met with the sample i of xs. -/
def inSt (xs ys : List Int) (m i : Nat) (o : List (Int × Int)) : Nat → List (Int × Int)
  | 0 => o
  | k + 1 => if hits xs ys m i k then upd (inSt xs ys m i o k) (k + m - i) (xs.getD i 0 * ys.getD k 0) else inSt xs ys m i o k
/-- The sums when the first i samples of xs have been met with all of ys. -/
def outSt (xs ys : List Int) (m : Nat) : Nat → List (Int × Int)
  | 0 => List.replicate (2 * m + 1) (0, 0)
  | i + 1 => inSt xs ys m i (outSt xs ys m i) ys.length
def lagCells (xs ys : List Int) (m : Nat) : List (Int × Int) := outSt xs ys m xs.length
def ofSpec (xs ys : List Int) (most : Int) : List (Int × Int) × Int :=
  if streamErr xs ≠ 0 then ([], streamErr xs) else if streamErr ys ≠ 0 then ([], streamErr ys) else if most < 0 ∨ 255 < most then ([], 2) else (lagCells xs ys most.toNat, 0)

theorem upd_len (o : List (Int × Int)) (j : Nat) (v : Int) : (upd o j v).length = o.length := by simp [upd]
theorem inSt_len (xs ys : List Int) (m i : Nat) (o : List (Int × Int)) (k : Nat) : (inSt xs ys m i o k).length = o.length := by
  induction k with
  | zero => rfl
  | succ k ih => unfold inSt; split <;> simp [upd_len, ih]
theorem outSt_len (xs ys : List Int) (m i : Nat) : (outSt xs ys m i).length = 2 * m + 1 := by
  induction i with
  | zero => simp [outSt]
  | succ i ih => simp [outSt, inSt_len, ih]
theorem lagCells_len (xs ys : List Int) (m : Nat) : (lagCells xs ys m).length = 2 * m + 1 := outSt_len _ _ _ _
theorem inSt_yes {xs ys : List Int} {m i k : Nat} {o : List (Int × Int)} (h : hits xs ys m i k = true) : inSt xs ys m i o (k + 1) = upd (inSt xs ys m i o k) (k + m - i) (xs.getD i 0 * ys.getD k 0) := by rw [inSt, if_pos h]
theorem inSt_no {xs ys : List Int} {m i k : Nat} {o : List (Int × Int)} (h : hits xs ys m i k = false) : inSt xs ys m i o (k + 1) = inSt xs ys m i o k := by rw [inSt, if_neg (by simp [h])]
/-- Nothing happens between a and b if nothing hits there. -/
theorem inSt_skip {xs ys : List Int} {m i : Nat} {o : List (Int × Int)} {a b : Nat} (hab : a ≤ b) (h : ∀ k, a ≤ k → k < b → hits xs ys m i k = false) : inSt xs ys m i o b = inSt xs ys m i o a := by
  induction b with
  | zero => obtain rfl : a = 0 := by omega
            rfl
  | succ b ih =>
    rcases Nat.lt_or_ge a (b + 1) with h1 | h1
    · rw [inSt_no (h b (by omega) (by omega)), ih (by omega) (fun k h2 h3 => h k h2 (by omega))]
    · obtain rfl : a = b + 1 := by omega
      rfl

/-- Bounds of sums: at most 9 a product, and so many products. -/
def bdP (B : Int) (o : List (Int × Int)) : Prop := ∀ x ∈ o, -(9 * x.2) ≤ x.1 ∧ x.1 ≤ 9 * x.2 ∧ 0 ≤ x.2 ∧ x.2 ≤ B
theorem bdP_mono {B C : Int} {o : List (Int × Int)} (h : bdP B o) (hc : B ≤ C) : bdP C o := fun x hx => by have := h x hx; omega
theorem bdP_at {B : Int} {o : List (Int × Int)} {j : Nat} (h : bdP B o) (hj : j < o.length) : -(9 * (o.getD j (0, 0)).2) ≤ (o.getD j (0, 0)).1 ∧ (o.getD j (0, 0)).1 ≤ 9 * (o.getD j (0, 0)).2 ∧ 0 ≤ (o.getD j (0, 0)).2 ∧ (o.getD j (0, 0)).2 ≤ B := by
  rw [getD_lt _ _ hj]
  exact h _ (List.getElem_mem hj)
theorem bdP_upd {B : Int} {o : List (Int × Int)} {j : Nat} {v : Int} (h : bdP B o) (hB : 0 ≤ B) (h1 : -9 ≤ v) (h2 : v ≤ 9) : bdP (B + 1) (upd o j v) := by
  intro x hx
  unfold upd at hx
  rcases List.mem_or_eq_of_mem_set hx with h3 | rfl
  · have := h x h3; omega
  · rcases Nat.lt_or_ge j o.length with hj | hj
    · have := bdP_at h hj
      simp only []
      omega
    · have e : o.getD j (0, 0) = (0, 0) := by simp [List.getD_eq_getElem?_getD, List.getElem?_eq_none hj]
      rw [e]
      simp only []
      omega
theorem sample_bd {x : Int} (h : 0 ≤ digitOf x) : x = 0 ∨ x = -3 ∨ x = -1 ∨ x = 1 ∨ x = 3 := by
  unfold digitOf at h
  repeat' split at h
  all_goals omega
theorem streamErr_zero {xs : List Int} (h : streamErr xs = 0) : xs.length ≤ 256 ∧ ∀ x ∈ xs, 0 ≤ digitOf x := by
  unfold streamErr at h
  split at h
  · omega
  · split at h
    · rename_i h1 h2
      exact ⟨by omega, by simpa using h2⟩
    · omega
theorem stream_at {xs : List Int} (h : streamErr xs = 0) (i : Nat) : xs.getD i 0 = 0 ∨ xs.getD i 0 = -3 ∨ xs.getD i 0 = -1 ∨ xs.getD i 0 = 1 ∨ xs.getD i 0 = 3 := by
  rcases Nat.lt_or_ge i xs.length with h1 | h1
  · rw [getD_lt _ _ h1]
    exact sample_bd ((streamErr_zero h).2 _ (List.getElem_mem h1))
  · left; simp [List.getD_eq_getElem?_getD, List.getElem?_eq_none h1]
theorem prod_bd {x y : Int} (hx : x = 0 ∨ x = -3 ∨ x = -1 ∨ x = 1 ∨ x = 3) (hy : y = 0 ∨ y = -3 ∨ y = -1 ∨ y = 1 ∨ y = 3) : -9 ≤ x * y ∧ x * y ≤ 9 := by
  rcases hx with rfl | rfl | rfl | rfl | rfl <;> rcases hy with rfl | rfl | rfl | rfl | rfl <;> decide
theorem inSt_bd {xs ys : List Int} (hx : streamErr xs = 0) (hy : streamErr ys = 0) {m i : Nat} {B : Int} {o : List (Int × Int)} (h : bdP B o) (hB : 0 ≤ B) (k : Nat) : bdP (B + k) (inSt xs ys m i o k) := by
  induction k with
  | zero => simpa [inSt] using h
  | succ k ih =>
    unfold inSt
    split
    · have := bdP_upd (j := k + m - i) ih (by omega) (prod_bd (stream_at hx i) (stream_at hy k)).1 (prod_bd (stream_at hx i) (stream_at hy k)).2
      exact bdP_mono this (by omega)
    · exact bdP_mono ih (by omega)
theorem outSt_bd {xs ys : List Int} (hx : streamErr xs = 0) (hy : streamErr ys = 0) (m : Nat) (i : Nat) : bdP (256 * i) (outSt xs ys m i) := by
  induction i with
  | zero =>
    intro x h
    simp [outSt] at h
    subst h
    simp
  | succ i ih =>
    have := inSt_bd hx hy (m := m) (i := i) ih (by omega) ys.length
    have hl := (streamErr_zero hy).1
    exact bdP_mono this (by omega)
theorem ofSpec_x {xs ys : List Int} {most : Int} (h : ¬ streamErr xs = 0) : ofSpec xs ys most = ([], streamErr xs) := by simp [ofSpec, h]
theorem ofSpec_y {xs ys : List Int} {most : Int} (h0 : streamErr xs = 0) (h : ¬ streamErr ys = 0) : ofSpec xs ys most = ([], streamErr ys) := by simp [ofSpec, h0, h]
theorem ofSpec_m {xs ys : List Int} {most : Int} (h0 : streamErr xs = 0) (h : streamErr ys = 0) (hm : most < 0 ∨ 255 < most) : ofSpec xs ys most = ([], 2) := by simp [ofSpec, h0, h, hm]
theorem ofSpec_ok {xs ys : List Int} {m : Nat} (h0 : streamErr xs = 0) (h : streamErr ys = 0) (hm : m ≤ 255) : ofSpec xs ys (m : Int) = (lagCells xs ys m, 0) := by
  have : ¬ ((m : Int) < 0 ∨ 255 < (m : Int)) := by omega
  simp [ofSpec, h0, h, this]
theorem hits_x {xs ys : List Int} {m i k : Nat} (h : xs.getD i 0 = 0) : hits xs ys m i k = false := by
  simp only [hits, decide_eq_false_iff_not]; exact fun h2 => h2.1 h
theorem hits_y {xs ys : List Int} {m i k : Nat} (h : ys.getD k 0 = 0) : hits xs ys m i k = false := by
  simp only [hits, decide_eq_false_iff_not]; exact fun h2 => h2.2.1 h
theorem hits_far {xs ys : List Int} {m i k : Nat} (h : k + m < i ∨ i + m < k) : hits xs ys m i k = false := by
  simp only [hits, decide_eq_false_iff_not]; omega
theorem hits_yes {xs ys : List Int} {m i k : Nat} (h1 : ¬ xs.getD i 0 = 0) (h2 : ¬ ys.getD k 0 = 0) (h3 : i ≤ k + m) (h4 : k ≤ i + m) : hits xs ys m i k = true := by
  simp only [hits, decide_eq_true_eq]; exact ⟨h1, h2, h3, h4⟩
theorem inSt_fin {xs ys : List Int} {m i : Nat} {o : List (Int × Int)} {a : Nat} (h : ys.length ≤ a ∨ i + m < a) : inSt xs ys m i o a = inSt xs ys m i o ys.length := by
  rcases Nat.lt_or_ge a ys.length with h1 | h1
  · exact (inSt_skip (by omega) (fun k h2 _ => hits_far (.inr (by omega)))).symm
  · exact inSt_skip h1 (fun k h2 _ => hits_y (by simp [List.getD_eq_getElem?_getD, List.getElem?_eq_none h2]))
end Go.Proofs.Ytfmhliiljmcejaa
