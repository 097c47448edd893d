import Derived.Test.YtnngkghmhbcgeaaNumE
namespace Go.Proofs.Ytnngkghmhbcgeaa.Num

theorem split_unique {t m t' m' : Nat} (hm : m % 2 = 1) (hm' : m' % 2 = 1) (h : 2 ^ t * m = 2 ^ t' * m') : t = t' ∧ m = m' := by
  induction t generalizing t' with
  | zero =>
    cases t' with
    | zero => rw [Nat.pow_zero, Nat.one_mul, Nat.one_mul] at h; exact ⟨rfl, h⟩
    | succ t' => rw [Nat.pow_zero, Nat.one_mul, Nat.pow_succ, Nat.mul_comm (2 ^ t') 2, Nat.mul_assoc] at h; omega
  | succ t ih =>
    cases t' with
    | zero => rw [Nat.pow_zero, Nat.one_mul, Nat.pow_succ, Nat.mul_comm (2 ^ t) 2, Nat.mul_assoc] at h; omega
    | succ t' =>
      rw [Nat.pow_succ, Nat.mul_comm (2 ^ t) 2, Nat.mul_assoc, Nat.pow_succ, Nat.mul_comm (2 ^ t') 2, Nat.mul_assoc] at h
      obtain ⟨a, b⟩ := ih (t' := t') (by omega)
      exact ⟨by omega, b⟩

/-- a square root of 1 is 1 or -1 -/
theorem Pr.sqrt_one {p x : Nat} (hp : Pr p) (h : x * x % p = 1) : x % p = 1 ∨ x % p = p - 1 := by
  have h2 := hp.1
  have hx0 : x ≠ 0 := by rintro rfl; rw [Nat.mul_zero, Nat.zero_mod] at h; omega
  have h1 : x * x % p = 1 % p := h.trans (Nat.mod_eq_of_lt (by omega)).symm
  have hd := dvd_sub_of_mod h1
  have e : x * x - 1 = (x - 1) * (x + 1) := by
    obtain ⟨y, rfl⟩ : ∃ y, x = y + 1 := ⟨x - 1, by omega⟩
    have : (y + 1) * (y + 1) = y * (y + 1 + 1) + 1 := by grind
    rw [this, Nat.add_sub_cancel, Nat.add_sub_cancel]
  rw [e] at hd
  rcases hp.dvd_mul hd with h3 | h3
  · left
    rw [mod_of_dvd_sub (by omega) h3]
    exact Nat.mod_eq_of_lt (by omega)
  · right
    obtain ⟨c, hc⟩ := h3
    have hc0 : c ≠ 0 := by rintro rfl; omega
    obtain ⟨f, rfl⟩ : ∃ f, c = f + 1 := ⟨c - 1, by omega⟩
    have : x = (p - 1) + p * f := by rw [Nat.mul_add, Nat.mul_one] at hc; omega
    rw [this, Nat.add_mul_mod_self_left]
    exact Nat.mod_eq_of_lt (by omega)

/-- a prime number passes -/
theorem pr_sp {n t d a : Nat} (hp : Pr n) (hn : n - 1 = 2 ^ t * d) (ha : ¬ n ∣ a) : SP n t d a := by
  have h1 := fermat1 hp ha
  rw [hn] at h1
  have key : ∀ t, a ^ (2 ^ t * d) % n = 1 → SP n t d a := by
    intro t
    induction t with
    | zero => intro h; rw [Nat.pow_zero, Nat.one_mul] at h; exact Or.inl h
    | succ t ih =>
      intro h
      have e : a ^ (2 ^ (t + 1) * d) = a ^ (2 ^ t * d) * a ^ (2 ^ t * d) := by
        rw [← Nat.pow_add]; congr 1; rw [Nat.pow_succ]; grind
      rw [e] at h
      rcases hp.sqrt_one h with h2 | h2
      · rcases ih h2 with h3 | ⟨i, hi, h3⟩
        · exact Or.inl h3
        · exact Or.inr ⟨i, by omega, h3⟩
      · exact Or.inr ⟨t, by omega, h2⟩
  exact key t h1

/-- the four tests, however n - 1 is split -/
theorem sp_pr {n t d : Nat} (hn2 : 2 ≤ n) (hn : n ≤ 2000000000) (hs : n - 1 = 2 ^ t * d) (hd : d % 2 = 1)
    (h2 : ¬ 2 ∣ n) (h3 : ¬ 3 ∣ n) (h5 : ¬ 5 ∣ n) (h7 : ¬ 7 ∣ n) (a : SP n t d 2) (b : SP n t d 3) (c : SP n t d 5) (e : SP n t d 7) : Pr n := by
  have h := split_eq 32 (n - 1)
  have ho : oddp 32 (n - 1) % 2 = 1 := oddp_odd (by omega) (by omega)
  obtain ⟨e1, e2⟩ := split_unique hd ho (hs.symm.trans h.symm)
  subst e1 e2
  have hlt : oddp 32 (n - 1) < 2 ^ 32 := by have := oddp_le 32 (n - 1); omega
  refine passes_pr hn2 hn h2 h3 h5 h7 ?_
  unfold passes
  rw [(stB_iff hlt).2 a, (stB_iff hlt).2 b, (stB_iff hlt).2 c, (stB_iff hlt).2 e]
  rfl

noncomputable def primeB (n : Nat) : Bool := @decide (Pr n) (Classical.propDecidable _)
theorem primeB_true {n : Nat} (h : Pr n) : primeB n = true := by unfold primeB; exact @decide_eq_true _ (Classical.propDecidable _) h
theorem primeB_false {n : Nat} (h : ¬ Pr n) : primeB n = false := by unfold primeB; exact @decide_eq_false _ (Classical.propDecidable _) h
theorem primeB_iff {n : Nat} : primeB n = true ↔ Pr n := by unfold primeB; exact @decide_eq_true_iff _ (Classical.propDecidable _)
theorem primeB_dvd {n q : Nat} (hq : Pr q) (hd : n % q = 0) : primeB n = Nat.beq n q := by
  have hd' := Nat.dvd_of_mod_eq_zero hd
  by_cases h : n = q
  · subst h; rw [primeB_true hq, Nat.beq_refl]
  · rw [primeB_false, (beq_false_iff.2 h)]
    intro hp
    exact h (hq.eq_of_dvd hp hd').symm
end Go.Proofs.Ytnngkghmhbcgeaa.Num
