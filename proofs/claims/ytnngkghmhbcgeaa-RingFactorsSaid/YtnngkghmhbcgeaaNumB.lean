import Derived.Test.YtnngkghmhbcgeaaNumA
namespace Go.Proofs.Ytnngkghmhbcgeaa.Num

theorem exists_least {n : Nat} (h : 2 ≤ n) : ∃ p, Pr p ∧ p ∣ n ∧ ∀ q, Pr q → q ∣ n → p ≤ q := by
  have key : ∀ k p, p ≤ k → Pr p → p ∣ n → ∃ p, Pr p ∧ p ∣ n ∧ ∀ q, Pr q → q ∣ n → p ≤ q := by
    intro k
    induction k with
    | zero => intro p hle hp _; have := hp.1; omega
    | succ k ih =>
      intro p hle hp hd
      by_cases hq : ∃ q, Pr q ∧ q ∣ n ∧ q < p
      · obtain ⟨q, h1, h2, h3⟩ := hq
        exact ih q (by omega) h1 h2
      · refine ⟨p, hp, hd, fun q h1 h2 => ?_⟩
        apply Classical.byContradiction
        intro hc
        exact hq ⟨q, h1, h2, by omega⟩
  obtain ⟨p, hp, hd⟩ := exists_pr h
  exact key p p (Nat.le_refl p) hp hd

/-- the strong test of n with the base a, n - 1 = 2^t * d -/
def SP (n t d a : Nat) : Prop := a ^ d % n = 1 ∨ ∃ i, i < t ∧ a ^ (2 ^ i * d) % n = n - 1

theorem neg_sq {x n : Nat} (h2 : 2 ≤ n) (h : x % n = n - 1) : (x * x) % n = 1 := by
  rw [Nat.mul_mod, h]
  obtain ⟨m, rfl⟩ : ∃ m, n = m + 2 := ⟨n - 2, by omega⟩
  have : (m + 2 - 1) * (m + 2 - 1) = 1 + (m + 2) * m := by
    have : m + 2 - 1 = m + 1 := by omega
    rw [this]; grind
  rw [this, Nat.add_mul_mod_self_left]
  exact Nat.mod_eq_of_lt (by omega)

theorem neg_pow_odd {x n k : Nat} (h2 : 2 ≤ n) (h : x % n = n - 1) (hk : k % 2 = 1) : x ^ k % n = n - 1 := by
  obtain ⟨j, rfl⟩ : ∃ j, k = 2 * j + 1 := ⟨k / 2, by omega⟩
  have h1 : (x ^ 2) ^ j % n = 1 % n := by
    rw [Nat.pow_mod, Nat.pow_two, neg_sq h2 h]
    rw [Nat.one_pow]
  rw [Nat.pow_succ, Nat.pow_mul, mul_mod_one h1, h]

theorem neg_pow_even {x n k : Nat} (h2 : 2 ≤ n) (h : x % n = n - 1) (hk : k % 2 = 0) : x ^ k % n = 1 := by
  obtain ⟨j, rfl⟩ : ∃ j, k = 2 * j := ⟨k / 2, by omega⟩
  rw [Nat.pow_mul, Nat.pow_mod, Nat.pow_two, neg_sq h2 h, Nat.one_pow]
  exact Nat.mod_eq_of_lt (by omega)

theorem sp_fermat {n t d a : Nat} (h3 : 3 ≤ n) (hn : n - 1 = 2 ^ t * d) (h : SP n t d a) : a ^ (n - 1) % n = 1 := by
  have e1 : 1 % n = 1 := Nat.mod_eq_of_lt (by omega)
  rcases h with h | ⟨i, hi, h⟩
  · have := pow_dvd_one (h.trans e1.symm) (k := n - 1) ⟨2 ^ t, by rw [hn, Nat.mul_comm]⟩
    rw [this, e1]
  · have h1 := neg_sq (by omega) h
    rw [← Nat.pow_two, ← Nat.pow_mul] at h1
    have := pow_dvd_one (h1.trans e1.symm) (k := n - 1) (by
      obtain ⟨c, hc⟩ : 2 ^ (i + 1) ∣ 2 ^ t := Nat.pow_dvd_pow 2 (by omega)
      refine ⟨c, ?_⟩
      rw [hn, hc, Nat.pow_succ]
      grind)
    rw [this, e1]

/-- what a test with the base a says of a prime factor -/
def Sig (p o k a : Nat) : Prop := a ^ (2 ^ k * o) % p = 1 ∧ (k = 0 ∨ a ^ (2 ^ (k - 1) * o) % p = p - 1)

theorem neg_mod {x n p : Nat} (h2 : 2 ≤ n) (hp : 2 ≤ p) (hd : p ∣ n) (h : x % n = n - 1) : x % p = p - 1 := by
  have h1 : (x + 1) % n = 0 := by
    rw [Nat.add_mod, h, Nat.mod_eq_of_lt (show 1 < n by omega), show n - 1 + 1 = n by omega, Nat.mod_self]
  have h3 : p ∣ x + 1 := Nat.dvd_trans hd (Nat.dvd_of_mod_eq_zero h1)
  obtain ⟨c, hc⟩ := h3
  have hc0 : c ≠ 0 := by rintro rfl; omega
  obtain ⟨e, rfl⟩ : ∃ e, c = e + 1 := ⟨c - 1, by omega⟩
  have : x = (p - 1) + p * e := by rw [Nat.mul_add, Nat.mul_one] at hc; omega
  rw [this, Nat.add_mul_mod_self_left]
  exact Nat.mod_eq_of_lt (by omega)

/-- the number that the test fixes: 0, or one more than the index -/
theorem sp_sig {n t d a : Nat} (h2 : 3 ≤ n) (hdo : d % 2 = 1) (h : SP n t d a) :
    ∃ j, ∀ p o k, 3 ≤ p → p ∣ n → o % 2 = 1 → Sig p o k a → k = j := by
  have odd_mul : ∀ x y : Nat, x % 2 = 1 → y % 2 = 1 → (x * y) % 2 = 1 := by
    intro x y hx hy; rw [Nat.mul_mod, hx, hy]
  rcases h with h | ⟨i, hi, h⟩
  · refine ⟨0, fun p o k hp hd ho hs => ?_⟩
    rcases hs.2 with h0 | h0
    · exact h0
    · exfalso
      have h1 := neg_pow_odd (by omega) h0 hdo
      rw [← Nat.pow_mul, show 2 ^ (k - 1) * o * d = d * (2 ^ (k - 1) * o) by rw [Nat.mul_comm]] at h1
      have h3 : a ^ d % p = 1 % p := mod_trans (h.trans (Nat.mod_eq_of_lt (by omega)).symm) hd
      rw [pow_one_mul h3, Nat.mod_eq_of_lt (by omega)] at h1
      omega
  · refine ⟨i + 1, fun p o k hp hd ho hs => ?_⟩
    have hm : a ^ (2 ^ i * d) % p = p - 1 := neg_mod (by omega) (by omega) hd h
    have e1 : 1 % p = 1 := Nat.mod_eq_of_lt (by omega)
    by_cases hle : k ≤ i
    · exfalso
      have h1 := neg_pow_odd (by omega) hm ho
      rw [← Nat.pow_mul] at h1
      obtain ⟨c, hc⟩ : 2 ^ k ∣ 2 ^ i := Nat.pow_dvd_pow 2 hle
      have h4 : a ^ (2 ^ i * d * o) % p = 1 % p :=
        pow_dvd_one (hs.1.trans e1.symm) ⟨c * d, by rw [hc]; grind⟩
      omega
    · by_cases hk : k = i + 1
      · exact hk
      · exfalso
        rcases hs.2 with h0 | h0
        · omega
        · have h1 := neg_pow_odd (by omega) h0 hdo
          rw [← Nat.pow_mul] at h1
          have h5 := neg_sq (by omega) hm
          rw [← Nat.pow_two, ← Nat.pow_mul] at h5
          obtain ⟨c, hc⟩ : 2 ^ (i + 1) ∣ 2 ^ (k - 1) := Nat.pow_dvd_pow 2 (by omega)
          have h4 : a ^ (2 ^ (k - 1) * o * d) % p = 1 % p :=
            pow_dvd_one (h5.trans e1.symm) ⟨c * o, by rw [hc, Nat.pow_succ]; grind⟩
          omega

/-- a prime factor q of r * q: a^(r - 1) = 1 -/
theorem cofactor {r q a : Nat} (hr : 1 ≤ r) (hq : Pr q) (hqa : ¬ q ∣ a) (h : a ^ (r * q - 1) % q = 1) : a ^ (r - 1) % q = 1 := by
  have h2 := hq.1
  have e1 : 1 % q = 1 := Nat.mod_eq_of_lt (by omega)
  have e : r * q - 1 = (q - 1) * r + (r - 1) := by
    obtain ⟨s, rfl⟩ : ∃ s, q = s + 1 := ⟨q - 1, by omega⟩
    rw [Nat.mul_add, Nat.add_sub_cancel, Nat.mul_one, Nat.mul_comm s r]; omega
  rw [e, Nat.pow_add, mul_mod_one (pow_one_mul ((fermat1 hq hqa).trans e1.symm))] at h
  exact h

/-- no square -/
theorem no_square {n r a : Nat} (hn : 2 ≤ n) (hr : Pr r) (hra : ¬ r ∣ a) (hd : r * r ∣ n) (h : a ^ (n - 1) % n = 1) : a ^ (r - 1) % (r * r) = 1 := by
  have h2 := hr.1
  have hrr : 4 ≤ r * r := Nat.mul_le_mul h2 h2
  have e1 : 1 % (r * r) = 1 := Nat.mod_eq_of_lt (by omega)
  have hf : a ^ (n - 1) % (r * r) = 1 % (r * r) := mod_trans (h.trans (Nat.mod_eq_of_lt (by omega)).symm) hd
  -- a^(r*(r-1)) = 1 mod r*r
  have hg : a ^ ((r - 1) * r) % (r * r) = 1 % (r * r) := by
    have h1 := fermat1 hr hra
    obtain ⟨c, hc⟩ : ∃ c, a ^ (r - 1) = c * r + 1 := ⟨a ^ (r - 1) / r, by have := Nat.div_add_mod (a ^ (r - 1)) r; rw [h1] at this; rw [Nat.mul_comm]; omega⟩
    rw [Nat.pow_mul, hc, binom]
    have hb : ∀ m, 1 ≤ m → m ≤ r → bs r (c * r) m % (r * r) = 1 % (r * r) := by
      intro m hm1 hm2
      induction m with
      | zero => omega
      | succ m ih =>
        show (bs r (c * r) m + ch r m * (c * r) ^ m) % (r * r) = _
        cases m with
        | zero => have : ch r 0 = 1 := by cases r <;> rfl
                  show (0 + ch r 0 * (c * r) ^ 0) % (r * r) = _
                  rw [this]; rfl
        | succ m =>
          obtain ⟨e, he⟩ := pr_dvd_ch hr (k := m + 1) (by omega) (by omega)
          have : ch r (m + 1) * (c * r) ^ (m + 1) = r * r * (e * ((c * r) ^ m * c)) := by rw [he, Nat.pow_succ]; grind
          rw [this, Nat.add_mul_mod_self_left]
          exact ih (by omega) (by omega)
    show (bs r (c * r) r + ch r r * (c * r) ^ r) % (r * r) = _
    have : ch r r * (c * r) ^ r = r * r * (c ^ r * r ^ (r - 2)) := by
      rw [ch_self, Nat.one_mul, Nat.mul_pow]
      have : r ^ r = r * r * r ^ (r - 2) := by
        rw [← Nat.pow_two, ← Nat.pow_add]; congr 1; omega
      rw [this]; grind
    rw [this, Nat.add_mul_mod_self_left]
    exact hb r (by omega) (Nat.le_refl r)
  have hgc := pow_gcd hf hg
  have hcop : Nat.Coprime (n - 1) r := by
    have : Nat.Coprime r (n - 1) := by
      apply hr.coprime
      intro hc
      have hrn : r ∣ n := Nat.dvd_trans ⟨r, rfl⟩ hd
      have := Nat.dvd_sub hrn hc
      rw [show n - (n - 1) = 1 by omega] at this
      have := Nat.le_of_dvd (by omega) this
      omega
    exact this.symm
  have hdv : Nat.gcd (n - 1) ((r - 1) * r) ∣ r - 1 := by
    have h3 : Nat.Coprime (Nat.gcd (n - 1) ((r - 1) * r)) r := Nat.Coprime.coprime_dvd_left (Nat.gcd_dvd_left _ _) hcop
    exact h3.dvd_of_dvd_mul_right (Nat.gcd_dvd_right _ _)
  rw [pow_dvd_one hgc hdv, e1]

/-- from an exponent of all four bases -/
def four (p m : Nat) : Prop := 2 ^ m % p = 1 ∧ 3 ^ m % p = 1 ∧ 5 ^ m % p = 1 ∧ 7 ^ m % p = 1

theorem four_gcd {p m k : Nat} (h2 : 2 ≤ p) (h : four p m) (h' : four p k) : four p (Nat.gcd m k) := by
  have e1 : 1 % p = 1 := Nat.mod_eq_of_lt (by omega)
  obtain ⟨a, b, c, d⟩ := h
  obtain ⟨a', b', c', d'⟩ := h'
  have key : ∀ x, x ^ m % p = 1 → x ^ k % p = 1 → x ^ (Nat.gcd m k) % p = 1 := by
    intro x h1 h2
    rw [pow_gcd (h1.trans e1.symm) (h2.trans e1.symm), e1]
  exact ⟨key 2 a a', key 3 b b', key 5 c c', key 7 d d'⟩

theorem four_dvd {p L m : Nat} (h2 : 2 ≤ p) (hL : four p L) (hmin : ∀ g, g ∣ L → four p g → g = L) (h : four p m) : L ∣ m := by
  have h1 := four_gcd h2 h hL
  have := hmin _ (Nat.gcd_dvd_right m L) h1
  exact this ▸ Nat.gcd_dvd_left m L

end Go.Proofs.Ytnngkghmhbcgeaa.Num
