import Derived.Test.YtnngkghmhbcgeaaNumH
namespace Go.Proofs.Ytnngkghmhbcgeaa.Num

/-- one step of the search for the order -/
def ordStep (p a q n : Nat) : Nat := if a ^ (n / q) % p = 1 then n / q else n
def ordL (p a : Nat) : List Nat → Nat → Nat
  | [], n => n
  | q :: t, n => ordL p a t (ordStep p a q n)
theorem ordL_snoc (p a : Nat) (l : List Nat) (q n : Nat) : ordL p a (l ++ [q]) n = ordStep p a q (ordL p a l n) := by
  induction l generalizing n with
  | nil => rfl
  | cons x t ih => exact ih _
noncomputable def ordN (p a : Nat) : Nat := ordL p a (facs (p - 1)) (p - 1)

/-- n is the order of a -/
structure IsOrd (p a n : Nat) : Prop where
  pos : 1 ≤ n
  one : a ^ n % p = 1
  min : ∀ q, Pr q → q ∣ n → a ^ (n / q) % p ≠ 1

theorem div_step {n m q : Nat} (hd : n ∣ m) (hq : q ∣ n) (h0 : 1 ≤ n) : n / q ∣ m / q := by
  obtain ⟨c, hc⟩ := hd
  obtain ⟨d, hdd⟩ := hq
  have hq0 : 0 < q := by rcases Nat.eq_zero_or_pos q with rfl | h; omega; exact h
  refine ⟨c, ?_⟩
  rw [hc, hdd, Nat.mul_assoc, Nat.mul_div_cancel_left _ hq0, Nat.mul_div_cancel_left _ hq0]

theorem IsOrd.dvd {p a n m : Nat} (hp : Pr p) (h : IsOrd p a n) (hm : a ^ m % p = 1) : n ∣ m := by
  have h1 := pow_gcd (hm.trans (one_mod hp).symm) (h.one.trans (one_mod hp).symm)
  rw [one_mod hp] at h1
  by_cases he : Nat.gcd m n = n
  · exact he ▸ Nat.gcd_dvd_left m n
  · exfalso
    obtain ⟨c, hc⟩ := Nat.gcd_dvd_right m n
    have hpos := h.pos
    have hc2 : 2 ≤ c := by
      rcases Nat.lt_or_ge c 2 with h2 | h2
      · exfalso
        have : c = 0 ∨ c = 1 := by omega
        rcases this with rfl | rfl
        · omega
        · rw [Nat.mul_one] at hc; exact he hc.symm
      · exact h2
    obtain ⟨q, hq, hqc⟩ := exists_pr hc2
    have hqn : q ∣ n := by rw [hc]; exact Nat.dvd_trans hqc ⟨Nat.gcd m n, by rw [Nat.mul_comm]⟩
    apply h.min q hq hqn
    have hdv : Nat.gcd m n ∣ n / q := by
      obtain ⟨d, hd⟩ := hqc
      refine ⟨d, ?_⟩
      have : n = q * (Nat.gcd m n * d) := by rw [hd] at hc; rw [← Nat.mul_assoc, Nat.mul_comm q, Nat.mul_assoc]; exact hc
      exact Nat.div_eq_of_eq_mul_right (by have := hq.1; omega) this
    rw [pow_dvd_one (h1.trans (one_mod hp).symm) hdv, one_mod hp]
theorem IsOrd.unique {p a n m : Nat} (hp : Pr p) (h : IsOrd p a n) (h' : IsOrd p a m) : n = m :=
  Nat.dvd_antisymm (h.dvd hp h'.one) (h'.dvd hp h.one)

theorem pow_count {q k : Nat} (hq : Pr q) {l : List Nat} (hl : ∀ x ∈ l, Pr x) (h : q ^ k ∣ mulAll l) : k ≤ l.count q := by
  induction l generalizing k with
  | nil =>
    rcases Nat.eq_zero_or_pos k with rfl | h0
    · exact Nat.zero_le _
    · exfalso
      have h1 : q ∣ mulAll [] := Nat.dvd_trans (by obtain ⟨j, rfl⟩ : ∃ j, k = j + 1 := ⟨k - 1, by omega⟩; exact ⟨q ^ j, by rw [Nat.pow_succ, Nat.mul_comm]⟩) h
      have := Nat.le_of_dvd (by decide) h1
      have := hq.1
      have e : mulAll [] = 1 := rfl
      omega
  | cons x t ih =>
    have ht := fun y hy => hl y (List.mem_cons_of_mem x hy)
    have h' : q ^ k ∣ x * mulAll t := h
    by_cases hx : x = q
    · subst hx
      rw [List.count_cons_self]
      rcases Nat.eq_zero_or_pos k with rfl | h0
      · omega
      · obtain ⟨j, rfl⟩ : ∃ j, k = j + 1 := ⟨k - 1, by omega⟩
        rw [Nat.pow_succ, Nat.mul_comm] at h'
        have := ih ht (Nat.dvd_of_mul_dvd_mul_left (by have := hq.1; omega) h')
        omega
    · rw [List.count_cons_of_ne hx]
      have hcop : Nat.Coprime (q ^ k) x := by
        have := hq.coprime (a := x) (fun hd => hx (hq.eq_of_dvd (hl x List.mem_cons_self) hd).symm)
        have := Nat.Coprime.pow k 1 this
        rwa [Nat.pow_one] at this
      exact ih ht (hcop.dvd_of_dvd_mul_left h')

/-- what the search keeps -/
structure OS (p a N : Nat) (rest : List Nat) (n : Nat) : Prop where
  prs : ∀ x ∈ rest, Pr x
  pos : 1 ≤ n
  dvN : n ∣ N
  one : a ^ n % p = 1
  rdv : mulAll rest ∣ n
  fin : ∀ q, Pr q → q ∣ n → a ^ (n / q) % p ≠ 1 ∨ ∀ k, q ^ k ∣ n → k ≤ rest.count q

theorem OS.step {p a N r n : Nat} {t : List Nat} (hp : Pr p) (h : OS p a N (r :: t) n) : OS p a N t (ordStep p a r n) := by
  have hr : Pr r := h.prs r List.mem_cons_self
  have hr2 := hr.1
  have ht := fun y hy => h.prs y (List.mem_cons_of_mem r hy)
  have hrd : r * mulAll t ∣ n := h.rdv
  have hrn : r ∣ n := Nat.dvd_trans ⟨_, rfl⟩ hrd
  have e : r * (n / r) = n := Nat.mul_div_cancel' hrn
  have hpos := h.pos
  unfold ordStep
  by_cases hs : a ^ (n / r) % p = 1
  · rw [if_pos hs]
    have hdn : n / r ∣ n := ⟨r, by rw [Nat.mul_comm]; exact e.symm⟩
    refine ⟨ht, ?_, Nat.dvd_trans hdn h.dvN, hs, ?_, ?_⟩
    · rcases Nat.eq_zero_or_pos (n / r) with h0 | h0
      · rw [h0] at e; omega
      · exact h0
    · rw [← e] at hrd
      exact Nat.dvd_of_mul_dvd_mul_left (by omega) hrd
    · intro q hq hqn
      rcases h.fin q hq (Nat.dvd_trans hqn hdn) with h1 | h1
      · left
        intro h2
        apply h1
        have hd : n / r / q ∣ n / q := div_step hdn hqn (by
          rcases Nat.eq_zero_or_pos (n / r) with h0 | h0
          · rw [h0] at e; omega
          · exact h0)
        rw [pow_dvd_one (h2.trans (one_mod hp).symm) hd, one_mod hp]
      · by_cases hqr : q = r
        · subst hqr
          right
          intro k hk
          have := h1 (k + 1) (by rw [Nat.pow_succ, Nat.mul_comm]; exact e ▸ Nat.mul_dvd_mul (Nat.dvd_refl q) hk)
          rw [List.count_cons_self] at this
          omega
        · right
          intro k hk
          have := h1 k (Nat.dvd_trans hk hdn)
          rwa [List.count_cons_of_ne (fun e => hqr e.symm)] at this
  · rw [if_neg hs]
    refine ⟨ht, hpos, h.dvN, h.one, Nat.dvd_trans ⟨r, by rw [Nat.mul_comm]⟩ hrd, ?_⟩
    intro q hq hqn
    by_cases hqr : q = r
    · subst hqr; exact Or.inl hs
    · rcases h.fin q hq hqn with h1 | h1
      · exact Or.inl h1
      · right
        intro k hk
        have := h1 k hk
        rwa [List.count_cons_of_ne (fun e => hqr e.symm)] at this

theorem OS.all {p a N n : Nat} {l : List Nat} (hp : Pr p) (h : OS p a N l n) : OS p a N [] (ordL p a l n) := by
  induction l generalizing n with
  | nil => exact h
  | cons r t ih => exact ih (h.step hp)

theorem ordN_is {p a : Nat} (hp : Pr p) (ha : ¬ p ∣ a) : IsOrd p a (ordN p a) ∧ ordN p a ∣ p - 1 := by
  have hp2 := hp.1
  have hf := facs_of (n := p - 1) (by omega)
  have h0 : OS p a (p - 1) (facs (p - 1)) (p - 1) := by
    refine ⟨hf.2.1, by omega, Nat.dvd_refl _, fermat1 hp ha, by rw [hf.1]; exact Nat.dvd_refl _, ?_⟩
    intro q hq hqn
    right
    intro k hk
    exact pow_count hq hf.2.1 (by rw [hf.1]; exact hk)
  have h1 := h0.all hp
  refine ⟨⟨h1.pos, h1.one, ?_⟩, h1.dvN⟩
  intro q hq hqn
  rcases h1.fin q hq hqn with h2 | h2
  · exact h2
  · have := h2 1 (by rw [Nat.pow_one]; exact hqn)
    simp at this

theorem ordN_eq {p a n : Nat} (hp : Pr p) (ha : ¬ p ∣ a) (h : IsOrd p a n) : ordN p a = n := (ordN_is hp ha).1.unique hp h

theorem gen_ord {p g : Nat} (hp : Pr p) (hg : ¬ p ∣ g) : Gen p g ↔ ordN p g = p - 1 := by
  have hp2 := hp.1
  have hf := facs_of (n := p - 1) (by omega)
  constructor
  · intro h
    refine ordN_eq hp hg ⟨by omega, fermat1 hp hg, ?_⟩
    intro q hq hqn
    exact h q (hq.mem_of_dvd hf.2.1 (by rw [hf.1]; exact hqn))
  · intro h q hq
    have h1 := (ordN_is hp hg).1
    rw [h] at h1
    exact h1.min q (hf.2.1 q hq) (by have := dvd_mulAll hq; rw [hf.1] at this; exact this)

/-- the least number for which something holds -/
theorem least {P : Nat → Prop} (h : ∃ n, P n) : ∃ n, P n ∧ ∀ m, P m → n ≤ m := by
  obtain ⟨n, hn⟩ := h
  induction n using Nat.strongRecOn with
  | ind n ih =>
    by_cases hc : ∃ m, P m ∧ m < n
    · obtain ⟨m, h1, h2⟩ := hc
      exact ih m h2 h1
    · refine ⟨n, hn, fun m hm => ?_⟩
      apply Classical.byContradiction
      intro hc'
      exact hc ⟨m, hm, by omega⟩

/-- g is the generator of p -/
def IsGen (p g : Nat) : Prop := 1 ≤ g ∧ g < p ∧ Gen p g ∧ ∀ m, 1 ≤ m → Gen p m → g ≤ m
theorem isGen_unique {p g g' : Nat} (h : IsGen p g) (h' : IsGen p g') : g = g' := by
  have a := h.2.2.2 g' h'.1 h'.2.2.1
  have b := h'.2.2.2 g h.1 h.2.2.1
  omega
theorem isGen_exists {p : Nat} (hp : Pr p) : ∃ g, IsGen p g := by
  obtain ⟨g, h1, h2, h3⟩ := gen_exists hp
  obtain ⟨m, ⟨a, b⟩, c⟩ := least (P := fun n => 1 ≤ n ∧ Gen p n) ⟨g, h1, h3⟩
  exact ⟨m, a, by have := c g ⟨h1, h3⟩; omega, b, fun n h4 h5 => c n ⟨h4, h5⟩⟩
noncomputable def genN (p : Nat) : Nat := @dite _ (∃ g, IsGen p g) (Classical.propDecidable _) (fun h => Classical.choose h) (fun _ => 0)
theorem genN_is {p : Nat} (hp : Pr p) : IsGen p (genN p) := by
  have h1 := isGen_exists hp
  unfold genN
  rw [dif_pos h1]
  exact Classical.choose_spec h1
theorem genN_eq {p g : Nat} (hp : Pr p) (h : IsGen p g) : genN p = g := isGen_unique (genN_is hp) h

/-- the root for n -/
noncomputable def rootN (p n : Nat) : Nat := genN p ^ ((p - 1) / n) % p
theorem rootN_ord {p n : Nat} (hp : Pr p) (hn : n ∣ p - 1) : IsOrd p (rootN p n) n := by
  have hp2 := hp.1
  have hg := genN_is hp
  have hpg : ¬ p ∣ genN p := hp.not_dvd_lt hg.1 hg.2.1
  have hn1 : 1 ≤ n := by rcases Nat.eq_zero_or_pos n with rfl | h; have := Nat.eq_zero_of_zero_dvd hn; omega; exact h
  have ho : IsOrd p (genN p) (p - 1) := by
    have := (ordN_is hp hpg).1
    rwa [(gen_ord hp hpg).1 hg.2.2.1] at this
  have hpw : ∀ k, rootN p n ^ k % p = genN p ^ ((p - 1) / n * k) % p := by
    intro k; unfold rootN; rw [← Nat.pow_mod, ← Nat.pow_mul]
  refine ⟨hn1, ?_, ?_⟩
  · rw [hpw, Nat.div_mul_cancel hn]; exact ho.one
  · intro q hq hqn
    rw [hpw]
    have : (p - 1) / n * (n / q) = (p - 1) / q := by
      obtain ⟨c, hc⟩ := hqn
      obtain ⟨d, hd⟩ := hn
      have hq0 : 0 < q := by have := hq.1; omega
      rw [hd, Nat.mul_div_cancel_left _ (by omega), hc, Nat.mul_div_cancel_left _ hq0, Nat.mul_assoc, Nat.mul_div_cancel_left _ hq0, Nat.mul_comm]
    rw [this]
    exact ho.min q hq (Nat.dvd_trans hqn hn)
end Go.Proofs.Ytnngkghmhbcgeaa.Num
