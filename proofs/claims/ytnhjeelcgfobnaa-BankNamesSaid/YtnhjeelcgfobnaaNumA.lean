namespace Go.Proofs.Ytnhjeelcgfobnaa.Num

/-- a prime number -/
def Pr (p : Nat) : Prop := 2 ≤ p ∧ ∀ d, d ∣ p → d = 1 ∨ d = p

theorem exists_pr {n : Nat} (h : 2 ≤ n) : ∃ p, Pr p ∧ p ∣ n := by
  induction n using Nat.strongRecOn with
  | ind n ih =>
    by_cases hp : Pr n
    · exact ⟨n, hp, Nat.dvd_refl n⟩
    · have : ∃ d, d ∣ n ∧ d ≠ 1 ∧ d ≠ n := by
        apply Classical.byContradiction
        intro hc
        apply hp
        refine ⟨h, fun d hd => ?_⟩
        by_cases h1 : d = 1
        · exact Or.inl h1
        · by_cases h2 : d = n
          · exact Or.inr h2
          · exact absurd ⟨d, hd, h1, h2⟩ hc
      obtain ⟨d, hd, h1, h2⟩ := this
      have hle := Nat.le_of_dvd (by omega) hd
      have h0 : d ≠ 0 := by rintro rfl; have := Nat.eq_zero_of_zero_dvd hd; omega
      obtain ⟨p, hp1, hp2⟩ := ih d (by omega) (by omega)
      exact ⟨p, hp1, Nat.dvd_trans hp2 hd⟩

theorem Pr.coprime {p a : Nat} (hp : Pr p) (h : ¬ p ∣ a) : Nat.Coprime p a := by
  rcases hp.2 _ (Nat.gcd_dvd_left p a) with h1 | h1
  · exact h1
  · exact absurd (h1 ▸ Nat.gcd_dvd_right p a) h

theorem Pr.dvd_mul {p a b : Nat} (hp : Pr p) (h : p ∣ a * b) : p ∣ a ∨ p ∣ b := by
  by_cases ha : p ∣ a
  · exact Or.inl ha
  · exact Or.inr ((hp.coprime ha).dvd_of_dvd_mul_left h)

theorem Pr.dvd_pow {p a n : Nat} (hp : Pr p) (h : p ∣ a ^ n) : p ∣ a := by
  induction n with
  | zero => rw [Nat.pow_zero] at h; have := Nat.le_of_dvd (by omega) h; have := hp.1; omega
  | succ n ih => rw [Nat.pow_succ] at h; rcases hp.dvd_mul h with h | h
                 · exact ih h
                 · exact h

/-- trial division -/
theorem pr_trial {n : Nat} (h : 2 ≤ n) (ht : ∀ d, 2 ≤ d → d * d ≤ n → ¬ d ∣ n) : Pr n := by
  obtain ⟨p, hp, hd⟩ := exists_pr h
  obtain ⟨c, hc⟩ := hd
  have hp2 := hp.1
  by_cases hc1 : c = 1
  · subst hc1; rw [Nat.mul_one] at hc; rw [hc]; exact hp
  · have hc0 : c ≠ 0 := by rintro rfl; omega
    exfalso
    by_cases hle : p ≤ c
    · exact ht p hp2 (by rw [hc]; exact Nat.mul_le_mul_left p hle) ⟨c, hc⟩
    · exact ht c (by omega) (by rw [hc]; exact Nat.mul_le_mul_right c (by omega)) ⟨p, by rw [hc, Nat.mul_comm]⟩

theorem Pr.not_dvd_lt {p a : Nat} (_ : Pr p) (h0 : 0 < a) (h : a < p) : ¬ p ∣ a := by
  intro hd; have := Nat.le_of_dvd h0 hd; omega

theorem Pr.eq_of_dvd {p q : Nat} (hp : Pr p) (hq : Pr q) (h : p ∣ q) : p = q := by
  rcases hq.2 _ h with h | h
  · have := hp.1; omega
  · exact h

def ch : Nat → Nat → Nat
  | _, 0 => 1
  | 0, _ + 1 => 0
  | n + 1, k + 1 => ch n k + ch n (k + 1)

theorem ch_over {n k : Nat} (h : n < k) : ch n k = 0 := by
  induction n generalizing k with
  | zero => cases k with
    | zero => omega
    | succ k => rfl
  | succ n ih => cases k with
    | zero => omega
    | succ k => show ch n k + ch n (k + 1) = 0; rw [ih (by omega), ih (by omega)]

theorem ch_self (n : Nat) : ch n n = 1 := by
  induction n with
  | zero => rfl
  | succ n ih => show ch n n + ch n (n + 1) = 1; rw [ih, ch_over (by omega)]

theorem ch_mul (n k : Nat) : (k + 1) * ch (n + 1) (k + 1) = (n + 1) * ch n k := by
  induction n generalizing k with
  | zero => cases k with
    | zero => rfl
    | succ k => rw [ch_over (n := 0) (by omega), ch_over (n := 0 + 1) (by omega)]; rfl
  | succ n ih =>
    cases k with
    | zero =>
      have := ih 0
      show (0 + 1) * (ch (n + 1) 0 + ch (n + 1) (0 + 1)) = _
      have e : ch (n + 1) 0 = 1 := rfl
      have e2 : ch n 0 = 1 := by cases n <;> rfl
      rw [e]; rw [e2] at this
      omega
    | succ k =>
      show (k + 1 + 1) * (ch (n + 1) (k + 1) + ch (n + 1) (k + 1 + 1)) = (n + 1 + 1) * ch (n + 1) (k + 1)
      have h1 := ih k
      have h2 := ih (k + 1)
      have e : ch (n + 1) (k + 1) = ch n k + ch n (k + 1) := rfl
      generalize ch (n + 1) (k + 1 + 1) = X at *
      generalize hY : ch (n + 1) (k + 1) = Y at *
      generalize ch n k = Z at *
      generalize ch n (k + 1) = W at *
      subst e
      grind

/-- the first m terms of (a + 1)^n -/
def bs (n a : Nat) : Nat → Nat
  | 0 => 0
  | m + 1 => bs n a m + ch n m * a ^ m

theorem bs_step (n a m : Nat) : bs (n + 1) a (m + 1) = bs n a (m + 1) + a * bs n a m := by
  induction m with
  | zero => show 0 + ch (n + 1) 0 * a ^ 0 = 0 + ch n 0 * a ^ 0 + a * 0
            have : ch n 0 = 1 := by cases n <;> rfl
            rw [this]; rfl
  | succ m ih =>
    have h1 : bs (n + 1) a (m + 1 + 1) = bs (n + 1) a (m + 1) + ch (n + 1) (m + 1) * a ^ (m + 1) := rfl
    have h2 : bs n a (m + 1 + 1) = bs n a (m + 1) + ch n (m + 1) * a ^ (m + 1) := rfl
    have h3 : bs n a (m + 1) = bs n a m + ch n m * a ^ m := rfl
    have h4 : ch (n + 1) (m + 1) = ch n m + ch n (m + 1) := rfl
    rw [h1, ih, h2, h4, h3, Nat.pow_succ]
    grind

theorem binom (n a : Nat) : (a + 1) ^ n = bs n a (n + 1) := by
  induction n with
  | zero => rfl
  | succ n ih =>
    rw [bs_step, Nat.pow_succ, ih]
    have : bs n a (n + 1 + 1) = bs n a (n + 1) + ch n (n + 1) * a ^ (n + 1) := rfl
    rw [this, ch_over (by omega)]
    grind

theorem pr_dvd_ch {p k : Nat} (hp : Pr p) (h0 : 0 < k) (h : k < p) : p ∣ ch p k := by
  obtain ⟨m, rfl⟩ : ∃ m, k = m + 1 := ⟨k - 1, by omega⟩
  obtain ⟨q, rfl⟩ : ∃ q, p = q + 1 := ⟨p - 1, by have := hp.1; omega⟩
  have := ch_mul q m
  rcases hp.dvd_mul (⟨_, this⟩ : q + 1 ∣ (m + 1) * ch (q + 1) (m + 1)) with h1 | h1
  · exact absurd h1 (hp.not_dvd_lt h0 h)
  · exact h1

theorem bs_mod {p a m : Nat} (hp : Pr p) (h0 : 0 < m) (h : m ≤ p) : bs p a m % p = 1 % p := by
  induction m with
  | zero => omega
  | succ m ih =>
    cases m with
    | zero => show (0 + ch p 0 * a ^ 0) % p = _
              have : ch p 0 = 1 := by cases p <;> rfl
              rw [this]; rfl
    | succ m =>
      show (bs p a (m + 1) + ch p (m + 1) * a ^ (m + 1)) % p = _
      obtain ⟨c, hc⟩ := pr_dvd_ch hp (k := m + 1) (by omega) (by omega)
      rw [hc, Nat.mul_assoc, Nat.add_mul_mod_self_left]
      exact ih (by omega) (by omega)

theorem fermat {p : Nat} (hp : Pr p) (a : Nat) : a ^ p % p = a % p := by
  have h2 := hp.1
  induction a with
  | zero => rw [Nat.zero_pow (by omega)]
  | succ a ih =>
    rw [binom]
    show (bs p a p + ch p p * a ^ p) % p = _
    rw [ch_self, Nat.one_mul, Nat.add_mod, bs_mod hp (by omega) (Nat.le_refl p), ih, ← Nat.add_mod, Nat.add_comm]

theorem dvd_sub_of_mod {a b n : Nat} (h : a % n = b % n) : n ∣ a - b :=
  Nat.dvd_of_mod_eq_zero (Nat.sub_mod_eq_zero_of_mod_eq h)

theorem mod_of_dvd_sub {a b n : Nat} (hle : b ≤ a) (h : n ∣ a - b) : a % n = b % n := by
  obtain ⟨c, hc⟩ := h
  have : a = b + n * c := by omega
  rw [this, Nat.add_mul_mod_self_left]

theorem fermat1 {p a : Nat} (hp : Pr p) (h : ¬ p ∣ a) : a ^ (p - 1) % p = 1 := by
  have h2 := hp.1
  have ha : 0 < a := by rcases Nat.eq_zero_or_pos a with rfl | h0; exact absurd (Nat.dvd_zero p) h; exact h0
  have h1 := dvd_sub_of_mod (fermat hp a)
  obtain ⟨q, rfl⟩ : ∃ q, p = q + 1 := ⟨p - 1, by omega⟩
  have e : a ^ (q + 1) - a = a * (a ^ q - 1) := by rw [Nat.pow_succ, Nat.mul_sub, Nat.mul_one, Nat.mul_comm]
  rw [e] at h1
  rcases hp.dvd_mul h1 with h1 | h1
  · exact absurd h1 h
  · rw [Nat.add_sub_cancel, mod_of_dvd_sub (Nat.pow_pos ha) h1]
    exact Nat.mod_eq_of_lt (by omega)

theorem mul_mod_one {a b n : Nat} (ha : a % n = 1 % n) : (a * b) % n = b % n := by
  rw [Nat.mul_mod, ha, ← Nat.mul_mod, Nat.one_mul]

theorem pow_one_mul {a m k n : Nat} (h : a ^ m % n = 1 % n) : a ^ (m * k) % n = 1 % n := by
  rw [Nat.pow_mul, Nat.pow_mod, h, ← Nat.pow_mod, Nat.one_pow]

theorem pow_dvd_one {a m k n : Nat} (h : a ^ m % n = 1 % n) (hd : m ∣ k) : a ^ k % n = 1 % n := by
  obtain ⟨c, rfl⟩ := hd; exact pow_one_mul h

theorem pow_gcd {a m k n : Nat} (h1 : a ^ m % n = 1 % n) (h2 : a ^ k % n = 1 % n) : a ^ (Nat.gcd m k) % n = 1 % n := by
  induction m, k using Nat.gcd.induction with
  | H0 k => rw [Nat.gcd_zero_left]; exact h2
  | H1 m k hm ih =>
    rw [Nat.gcd_rec]
    refine ih ?_ h1
    have e : a ^ k = a ^ (m * (k / m)) * a ^ (k % m) := by rw [← Nat.pow_add, Nat.div_add_mod]
    rw [e, mul_mod_one (pow_one_mul h1)] at h2
    exact h2

theorem dvd_pow_sub {a m n : Nat} (h : a ^ m % n = 1 % n) : n ∣ a ^ m - 1 := dvd_sub_of_mod h

theorem mod_trans {a b n d : Nat} (h : a % n = b % n) (hd : d ∣ n) : a % d = b % d := by
  rw [← Nat.mod_mod_of_dvd a hd, h, Nat.mod_mod_of_dvd b hd]

end Go.Proofs.Ytnhjeelcgfobnaa.Num
