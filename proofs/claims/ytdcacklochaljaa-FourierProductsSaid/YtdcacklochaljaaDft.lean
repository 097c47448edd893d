import Derived.Test.YtdcacklochaljaaNumA
namespace Go.Proofs.Ytdcacklochaljaa.Dft
/-- a sum -/
def S (f : Nat → Int) : Nat → Int
  | 0 => 0
  | n + 1 => S f n + f n
/-- congruent modulo p -/
def C (p : Int) (a b : Int) : Prop := p ∣ a - b
theorem C.refl (p a : Int) : C p a a := by unfold C; rw [Int.sub_self]; exact Int.dvd_zero p
theorem C.of_eq {p a b : Int} (h : a = b) : C p a b := by subst h; exact C.refl p a
theorem C.symm {p a b : Int} (h : C p a b) : C p b a := by
  unfold C at *; rw [show b - a = -(a - b) by omega]; exact Int.dvd_neg.2 h
theorem C.trans {p a b c : Int} (h : C p a b) (h' : C p b c) : C p a c := by
  unfold C at *; rw [show a - c = (a - b) + (b - c) by omega]; exact Int.dvd_add h h'
theorem C.add {p a b c d : Int} (h : C p a b) (h' : C p c d) : C p (a + c) (b + d) := by
  unfold C at *; rw [show a + c - (b + d) = (a - b) + (c - d) by omega]; exact Int.dvd_add h h'
theorem C.mul {p a b c d : Int} (h : C p a b) (h' : C p c d) : C p (a * c) (b * d) := by
  unfold C at *
  rw [show a * c - b * d = a * (c - d) + (a - b) * d by grind]
  exact Int.dvd_add (Int.dvd_trans h' (Int.dvd_mul_left _ _)) (Int.dvd_trans h (Int.dvd_mul_right _ _))
theorem C.pow {p a b : Int} (h : C p a b) (n : Nat) : C p (a ^ n) (b ^ n) := by
  induction n with
  | zero => exact C.of_eq (by rw [Int.pow_zero, Int.pow_zero])
  | succ n ih => rw [Int.pow_succ, Int.pow_succ]; exact ih.mul h
theorem C.emod (p a : Int) : C p (a % p) a := by
  unfold C
  rw [show a % p - a = p * (-(a / p)) by have := Int.mul_ediv_add_emod a p; rw [Int.mul_neg]; omega]
  exact Int.dvd_mul_right _ _
theorem C.eq {p a b : Int} (h : C p a b) (ha : 0 ≤ a ∧ a < p) (hb : 0 ≤ b ∧ b < p) : a = b := by
  obtain ⟨c, hc⟩ := h
  have hp : 0 < p := by omega
  have : c = 0 := by
    rcases Int.lt_trichotomy c 0 with h1 | h1 | h1
    · exfalso
      have : p * c ≤ p * (-1) := Int.mul_le_mul_of_nonneg_left (by omega) (by omega)
      omega
    · exact h1
    · exfalso
      have : p * 1 ≤ p * c := Int.mul_le_mul_of_nonneg_left (by omega) (by omega)
      omega
  subst this
  omega
theorem S_congr {f g : Nat → Int} {n : Nat} (h : ∀ j, j < n → f j = g j) : S f n = S g n := by
  induction n with
  | zero => rfl
  | succ n ih => show S f n + f n = S g n + g n; rw [ih (fun j hj => h j (by omega)), h n (by omega)]
theorem S_C {p : Int} {f g : Nat → Int} {n : Nat} (h : ∀ j, j < n → C p (f j) (g j)) : C p (S f n) (S g n) := by
  induction n with
  | zero => exact C.refl _ _
  | succ n ih => exact (ih (fun j hj => h j (by omega))).add (h n (by omega))
theorem S_mul (c : Int) (f : Nat → Int) (n : Nat) : S (fun j => c * f j) n = c * S f n := by
  induction n with
  | zero => show (0 : Int) = c * 0; omega
  | succ n ih => show S (fun j => c * f j) n + c * f n = c * (S f n + f n); rw [ih]; grind
theorem S_mul' (c : Int) (f : Nat → Int) (n : Nat) : S (fun j => f j * c) n = S f n * c := by
  rw [Int.mul_comm, ← S_mul]; exact S_congr (fun j _ => Int.mul_comm _ _)
theorem S_add (f g : Nat → Int) (n : Nat) : S (fun j => f j + g j) n = S f n + S g n := by
  induction n with
  | zero => rfl
  | succ n ih => show S (fun j => f j + g j) n + (f n + g n) = (S f n + f n) + (S g n + g n); rw [ih]; omega
theorem S_zero (n : Nat) : S (fun _ => 0) n = 0 := by
  induction n with
  | zero => rfl
  | succ n ih => show S (fun _ => 0) n + 0 = 0; rw [ih]; rfl
theorem S_swap (f : Nat → Nat → Int) (n m : Nat) : S (fun j => S (fun k => f j k) m) n = S (fun k => S (fun j => f j k) n) m := by
  induction n with
  | zero => show (0 : Int) = S (fun _ => 0) m; rw [S_zero]
  | succ n ih =>
    show S (fun j => S (fun k => f j k) m) n + S (fun k => f n k) m = S (fun k => S (fun j => f j k) n + f n k) m
    rw [ih, S_add]
/-- only one term is not 0 -/
theorem S_one {f : Nat → Int} {n k : Nat} (hk : k < n) (h : ∀ j, j < n → j ≠ k → f j = 0) : S f n = f k := by
  induction n with
  | zero => omega
  | succ n ih =>
    show S f n + f n = f k
    by_cases e : k = n
    · subst e
      rw [S_congr (g := fun _ => 0) (fun j hj => h j (by omega) (by omega)), S_zero]; omega
    · rw [ih (by omega) (fun j hj => h j (by omega)), h n (by omega) (fun e' => e e'.symm)]; omega
theorem S_one_C {p : Int} {f : Nat → Int} {n k : Nat} (hk : k < n) (h : ∀ j, j < n → j ≠ k → C p (f j) 0) : C p (S f n) (f k) := by
  have h1 : C p (S f n) (S (fun j => if j = k then f k else 0) n) := S_C (fun j hj => by
    by_cases e : j = k
    · subst e; simp only [if_pos]; exact C.refl _ _
    · simp only [if_neg e]; exact h j hj e)
  refine h1.trans (C.of_eq ?_)
  rw [S_one hk (fun j _ e => if_neg e), if_pos rfl]
theorem S_const (c : Int) (n : Nat) : S (fun _ => c) n = (n : Int) * c := by
  induction n with
  | zero => show (0 : Int) = 0 * c; omega
  | succ n ih => show S (fun _ => c) n + c = _; rw [ih]; grind
theorem geom (z : Int) (n : Nat) : (z - 1) * S (fun k => z ^ k) n = z ^ n - 1 := by
  induction n with
  | zero => show (z - 1) * 0 = z ^ 0 - 1; rw [Int.pow_zero]; omega
  | succ n ih =>
    show (z - 1) * (S (fun k => z ^ k) n + z ^ n) = z ^ (n + 1) - 1
    rw [Int.mul_add, ih, Int.pow_succ]; grind

/-- x and y are inverse roots for n -/
structure Rt (p x y : Int) (n : Nat) : Prop where
  pr : ∀ a b, p ∣ a * b → p ∣ a ∨ p ∣ b
  xy : C p (x * y) 1
  xn : C p (x ^ n) 1
  yn : C p (y ^ n) 1
  ne : ∀ i j, i < n → j < n → C p (x ^ i) (x ^ j) → i = j
theorem Rt.xym {p x y : Int} {n : Nat} (h : Rt p x y n) (m : Nat) : C p (x ^ m * y ^ m) 1 := by
  rw [← Int.mul_pow]
  have := h.xy.pow m
  rw [Int.one_pow] at this
  exact this
theorem Rt.swap {p x y : Int} {n : Nat} (h : Rt p x y n) : Rt p y x n := by
  refine ⟨h.pr, by rw [Int.mul_comm]; exact h.xy, h.yn, h.xn, ?_⟩
  intro i j hi hj hc
  refine (h.ne j i hj hi ?_).symm
  -- x^j = x^j (x^i y^i) = x^i (x^j y^i) = x^i (x^j y^j) = x^i
  have h1 : C p (x ^ j) (x ^ j * (x ^ i * y ^ i)) := by
    have := (C.refl p (x ^ j)).mul (h.xym i)
    rw [Int.mul_one] at this
    exact this.symm
  have h2 : C p (x ^ j * (x ^ i * y ^ i)) (x ^ j * (x ^ i * y ^ j)) := (C.refl _ _).mul ((C.refl _ _).mul hc)
  have h3 : C p (x ^ j * (x ^ i * y ^ j)) (x ^ i) := by
    rw [show x ^ j * (x ^ i * y ^ j) = x ^ i * (x ^ j * y ^ j) by grind]
    have := (C.refl p (x ^ i)).mul (h.xym j)
    rw [Int.mul_one] at this
    exact this
  exact (h1.trans h2).trans h3
/-- there and back -/
theorem Rt.inverse {p x y : Int} {n : Nat} (h : Rt p x y n) (l : Nat → Int) {m : Nat} (hm : m < n) :
    C p (S (fun k => S (fun j => l j * x ^ (j * k)) n * y ^ (k * m)) n) ((n : Int) * l m) := by
  have e1 : S (fun k => S (fun j => l j * x ^ (j * k)) n * y ^ (k * m)) n = S (fun j => l j * S (fun k => (x ^ j * y ^ m) ^ k) n) n := by
    rw [S_congr (g := fun k => S (fun j => l j * x ^ (j * k) * y ^ (k * m)) n) (fun k _ => (S_mul' _ _ _).symm), S_swap]
    refine S_congr (fun k _ => ?_)
    rw [← S_mul]
    refine S_congr (fun j _ => ?_)
    rw [Int.mul_pow, ← Int.pow_mul, ← Int.pow_mul, Nat.mul_comm j m, Int.mul_assoc]
  rw [e1]
  refine (S_one_C hm (fun j hj hne => ?_)).trans ?_
  · have hz : C p ((x ^ j * y ^ m) ^ n) 1 := by
      rw [Int.mul_pow, ← Int.pow_mul, ← Int.pow_mul, Nat.mul_comm j n, Nat.mul_comm m n, Int.pow_mul, Int.pow_mul]
      have := (h.xn.pow j).mul (h.yn.pow m)
      rw [Int.one_pow, Int.one_pow] at this
      exact this
    have hd : p ∣ (x ^ j * y ^ m - 1) * S (fun k => (x ^ j * y ^ m) ^ k) n := by rw [geom]; exact hz
    rcases h.pr _ _ hd with h1 | h1
    · exfalso
      apply hne
      refine h.ne j m hj hm ?_
      have h2 : C p (x ^ j * y ^ m) 1 := h1
      have h3 : C p (x ^ j) (x ^ j * (x ^ m * y ^ m)) := by
        have := (C.refl p (x ^ j)).mul (h.xym m)
        rw [Int.mul_one] at this
        exact this.symm
      have h4 : C p (x ^ j * (x ^ m * y ^ m)) (x ^ m) := by
        rw [show x ^ j * (x ^ m * y ^ m) = x ^ m * (x ^ j * y ^ m) by grind]
        have := (C.refl p (x ^ m)).mul h2
        rw [Int.mul_one] at this
        exact this
      exact h3.trans h4
    · have h2 : C p (S (fun k => (x ^ j * y ^ m) ^ k) n) 0 := by unfold C; rw [Int.sub_zero]; exact h1
      have := (C.refl p (l j)).mul h2
      rw [Int.mul_zero] at this
      exact this
  · have h1 : C p (S (fun k => (x ^ m * y ^ m) ^ k) n) (S (fun _ => 1) n) := S_C (fun k _ => by
      have := (h.xym m).pow k
      rw [Int.one_pow] at this
      exact this)
    rw [S_const, Int.mul_one] at h1
    have := (C.refl p (l m)).mul h1
    rw [Int.mul_comm (l m) (n : Int)] at this
    exact this
end Go.Proofs.Ytdcacklochaljaa.Dft
