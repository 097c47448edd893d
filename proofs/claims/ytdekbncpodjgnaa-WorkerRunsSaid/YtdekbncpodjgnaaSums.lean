/-
  Finite sums of integers, plain.
-/
namespace Go.Proofs.Ytdekbncpodjgnaa
set_option linter.unusedVariables false

def sumR (f : Nat → Int) : Nat → Int
  | 0 => 0
  | n + 1 => sumR f n + f n
theorem sumR_succ (f : Nat → Int) (n : Nat) : sumR f (n + 1) = sumR f n + f n := rfl
theorem sumR_congr {f g : Nat → Int} {n : Nat} (h : ∀ i, i < n → f i = g i) : sumR f n = sumR g n := by
  induction n with
  | zero => rfl
  | succ n ih => rw [sumR_succ, sumR_succ, ih (fun i hi => h i (by omega)), h n (by omega)]
theorem sumR_zero {f : Nat → Int} {n : Nat} (h : ∀ i, i < n → f i = 0) : sumR f n = 0 := by
  induction n with
  | zero => rfl
  | succ n ih => rw [sumR_succ, ih (fun i hi => h i (by omega)), h n (by omega)]; rfl
theorem sumR_add (f g : Nat → Int) (n : Nat) : sumR (fun i => f i + g i) n = sumR f n + sumR g n := by
  induction n with
  | zero => rfl
  | succ n ih => rw [sumR_succ, sumR_succ, sumR_succ, ih]; omega
theorem sumR_mul (c : Int) (f : Nat → Int) (n : Nat) : sumR (fun i => c * f i) n = c * sumR f n := by
  induction n with
  | zero => simp [sumR]
  | succ n ih => rw [sumR_succ, sumR_succ, ih, Int.mul_add]
theorem sumR_mul_right (c : Int) (f : Nat → Int) (n : Nat) : sumR (fun i => f i * c) n = sumR f n * c := by
  induction n with
  | zero => simp [sumR]
  | succ n ih => rw [sumR_succ, sumR_succ, ih, Int.add_mul]
theorem sumR_le {f g : Nat → Int} {n : Nat} (h : ∀ i, i < n → f i ≤ g i) : sumR f n ≤ sumR g n := by
  induction n with
  | zero => exact Int.le_refl _
  | succ n ih => rw [sumR_succ, sumR_succ]; have := ih (fun i hi => h i (by omega)); have := h n (by omega); omega
theorem sumR_comm (f : Nat → Nat → Int) (n m : Nat) : sumR (fun i => sumR (fun j => f i j) m) n = sumR (fun j => sumR (fun i => f i j) n) m := by
  induction n with
  | zero => simp [sumR, sumR_zero]
  | succ n ih => rw [sumR_succ, ih, ← sumR_add]; rfl
theorem sumR_const (c : Int) (n : Nat) : sumR (fun _ => c) n = n * c := by
  induction n with
  | zero => simp [sumR]
  | succ n ih => rw [sumR_succ, ih, Int.natCast_succ, Int.add_mul, Int.one_mul]
/-- A sum with one term that counts. -/
theorem sumR_one {f : Nat → Int} {n k : Nat} (hk : k < n) (h : ∀ i, i < n → i ≠ k → f i = 0) : sumR f n = f k := by
  induction n with
  | zero => omega
  | succ n ih =>
    rw [sumR_succ]
    rcases Nat.lt_or_ge k n with h1 | h1
    · rw [ih h1 (fun i hi hne => h i (by omega) hne), h n (by omega) (by omega)]; omega
    · obtain rfl : k = n := by omega
      rw [sumR_zero (fun i hi => h i (by omega) (by omega))]; omega
theorem sumR_split (f : Nat → Int) (n m : Nat) : sumR f (n + m) = sumR f n + sumR (fun i => f (n + i)) m := by
  induction m with
  | zero => simp [sumR]
  | succ m ih => rw [Nat.add_succ, sumR_succ, sumR_succ, ih]; omega
theorem sumR_head (f : Nat → Int) (n : Nat) : sumR f (n + 1) = f 0 + sumR (fun i => f (i + 1)) n := by
  induction n with
  | zero => simp [sumR]
  | succ n ih => rw [sumR_succ, ih, sumR_succ]; omega
theorem sumR_rev (f : Nat → Int) (n : Nat) : sumR f n = sumR (fun i => f (n - 1 - i)) n := by
  induction n with
  | zero => rfl
  | succ n ih =>
    rw [sumR_head (fun i => f (n + 1 - 1 - i)), sumR_succ, ih]
    have e : sumR (fun i => f (n + 1 - 1 - (i + 1))) n = sumR (fun i => f (n - 1 - i)) n := sumR_congr (fun i hi => by congr 1; omega)
    rw [e]
    simp only [Nat.add_sub_cancel, Nat.sub_zero]
    omega
end Go.Proofs.Ytdekbncpodjgnaa
