import Derived.Test.YtnngkghmhbcgeaaNumG
namespace Go.Proofs.Ytnngkghmhbcgeaa.Num

/-! roots of polynomials modulo a prime -/

def ev : List Int → Int → Int
  | [], _ => 0
  | c :: t, x => c + x * ev t x

/-- t + r * u, u shorter than t -/
def addS (r : Int) : List Int → List Int → List Int
  | [], _ => []
  | t, [] => t
  | a :: t, b :: u => (a + r * b) :: addS r t u

theorem addS_ev (r : Int) (t u : List Int) (h : u.length ≤ t.length) (x : Int) : ev (addS r t u) x = ev t x + r * ev u x := by
  induction t generalizing u with
  | nil =>
    have : u = [] := by cases u with
      | nil => rfl
      | cons _ _ => simp at h
    subst this
    show (0 : Int) = 0 + r * 0
    omega
  | cons a t ih =>
    cases u with
    | nil => show ev (a :: t) x = ev (a :: t) x + r * 0; omega
    | cons b u =>
      show (a + r * b) + x * ev (addS r t u) x = (a + x * ev t x) + r * (b + x * ev u x)
      rw [ih u (by simpa using h)]
      grind
theorem addS_len (r : Int) (t u : List Int) : (addS r t u).length = t.length := by
  induction t generalizing u with
  | nil => cases u <;> rfl
  | cons a t ih =>
    cases u with
    | nil => rfl
    | cons b u => show (addS r t u).length + 1 = t.length + 1; rw [ih]
theorem addS_last (r : Int) (t u : List Int) (h : u.length < t.length) : (addS r t u).getLast? = t.getLast? := by
  induction t generalizing u with
  | nil => simp at h
  | cons a t ih =>
    cases u with
    | nil => rfl
    | cons b u =>
      have h' : u.length < t.length := by simpa using h
      show ((a + r * b) :: addS r t u).getLast? = (a :: t).getLast?
      have e := ih u h'
      cases ht : t with
      | nil => rw [ht] at h'; simp at h'
      | cons c t' =>
        rw [ht] at e
        cases hs : addS r (c :: t') u with
        | nil => have := addS_len r (c :: t') u; rw [hs] at this; simp at this
        | cons d s =>
          rw [hs] at e
          rw [List.getLast?_cons_cons, List.getLast?_cons_cons]
          exact e
def quo (r : Int) : List Int → List Int
  | [] => []
  | _ :: t => addS r t (quo r t)
theorem quo_len (r : Int) (f : List Int) : (quo r f).length = f.length - 1 := by
  cases f with
  | nil => rfl
  | cons c t => show (addS r t (quo r t)).length = _; rw [addS_len]; simp
theorem quo_ev (r : Int) (f : List Int) (x : Int) : ev f x - ev f r = (x - r) * ev (quo r f) x := by
  induction f with
  | nil => show (0 : Int) - 0 = (x - r) * 0; omega
  | cons c t ih =>
    show (c + x * ev t x) - (c + r * ev t r) = (x - r) * ev (addS r t (quo r t)) x
    rw [addS_ev r t (quo r t) (by rw [quo_len]; omega)]
    grind
theorem quo_last (r : Int) (f : List Int) (h : 2 ≤ f.length) : (quo r f).getLast? = f.getLast? := by
  cases f with
  | nil => simp at h
  | cons c t =>
    show (addS r t (quo r t)).getLast? = _
    have h1 : 1 ≤ t.length := by simpa using h
    rw [addS_last r t (quo r t) (by rw [quo_len]; omega)]
    cases t with
    | nil => simp at h1
    | cons d t => rw [List.getLast?_cons_cons]

theorem nat_dvd {p : Nat} {a : Int} : (p : Int) ∣ a ↔ p ∣ a.natAbs := by
  rw [← Int.natCast_dvd_natCast, Int.dvd_natAbs]
theorem Pr.int_dvd_mul {p : Nat} (hp : Pr p) {a b : Int} (h : (p : Int) ∣ a * b) : (p : Int) ∣ a ∨ (p : Int) ∣ b := by
  have h1 : p ∣ (a * b).natAbs := nat_dvd.1 h
  rw [Int.natAbs_mul] at h1
  rcases hp.dvd_mul h1 with h2 | h2
  · exact Or.inl (nat_dvd.2 h2)
  · exact Or.inr (nat_dvd.2 h2)

theorem roots_le {p : Nat} (hp : Pr p) : ∀ (d : Nat) (f : List Int) (c : Int), f.length = d + 1 → f.getLast? = some c → ¬ (p : Int) ∣ c →
    ∀ S : List Int, S.Pairwise (fun x y => ¬ (p : Int) ∣ y - x) → (∀ x ∈ S, (p : Int) ∣ ev f x) → S.length ≤ d := by
  intro d
  induction d with
  | zero =>
    intro f c hl hlast hc S _ hS
    cases S with
    | nil => exact Nat.le_refl 0
    | cons r S =>
      exfalso
      obtain ⟨a, rfl⟩ := List.length_eq_one_iff.1 hl
      have h1 := hS r List.mem_cons_self
      have h2 : ev [a] r = a := by show a + r * 0 = a; omega
      rw [h2] at h1
      injection hlast with e
      exact hc (e ▸ h1)
  | succ d ih =>
    intro f c hl hlast hc S hpw hS
    cases S with
    | nil => exact Nat.zero_le _
    | cons r S =>
      have hpw' := List.pairwise_cons.1 hpw
      have hr := hS r List.mem_cons_self
      have := ih (quo r f) c (by rw [quo_len, hl]; rfl) (by rw [quo_last r f (by omega)]; exact hlast) hc S hpw'.2 (by
        intro x hx
        have hfx := hS x (List.mem_cons_of_mem _ hx)
        have h1 : (p : Int) ∣ (x - r) * ev (quo r f) x := by rw [← quo_ev]; exact Int.dvd_sub hfx hr
        rcases hp.int_dvd_mul h1 with h2 | h2
        · exact absurd h2 (hpw'.1 x hx)
        · exact h2)
      show S.length + 1 ≤ d + 1
      omega

/-- x^d - 1 -/
def mono : Nat → List Int
  | 0 => [1]
  | d + 1 => 0 :: mono d
theorem mono_ev (d : Nat) (x : Int) : ev (mono d) x = x ^ d := by
  induction d with
  | zero => rw [Int.pow_zero]; show 1 + x * 0 = 1; omega
  | succ d ih => show 0 + x * ev (mono d) x = x ^ (d + 1); rw [ih, Int.pow_succ, Int.mul_comm]; omega
theorem mono_len (d : Nat) : (mono d).length = d + 1 := by
  induction d with
  | zero => rfl
  | succ d ih => show (mono d).length + 1 = _; rw [ih]
theorem mono_last (d : Nat) : (mono d).getLast? = some 1 := by
  induction d with
  | zero => rfl
  | succ d ih =>
    show (0 :: mono d).getLast? = _
    cases h : mono d with
    | nil => have := mono_len d; rw [h] at this; simp at this
    | cons a t => rw [List.getLast?_cons_cons, ← h]; exact ih
def pol : Nat → List Int
  | 0 => []
  | d + 1 => (-1) :: mono d
theorem pol_ev (d : Nat) (x : Int) : ev (pol (d + 1)) x = x ^ (d + 1) - 1 := by
  show -1 + x * ev (mono d) x = _
  rw [mono_ev, Int.pow_succ, Int.mul_comm]; omega
theorem pol_len (d : Nat) : (pol (d + 1)).length = d + 1 + 1 := by show (mono d).length + 1 = _; rw [mono_len]
theorem pol_last (d : Nat) : (pol (d + 1)).getLast? = some 1 := by
  show ((-1) :: mono d).getLast? = _
  cases h : mono d with
  | nil => have := mono_len d; rw [h] at this; simp at this
  | cons a t => rw [List.getLast?_cons_cons, ← h]; exact mono_last d

theorem range_apart {p : Nat} (n : Nat) (h : n < p) : ((List.range n).map (fun i => ((i + 1 : Nat) : Int))).Pairwise (fun x y => ¬ (p : Int) ∣ y - x) := by
  rw [List.pairwise_map]
  have := List.pairwise_lt_range (n := n)
  refine List.Pairwise.imp_of_mem ?_ this
  intro a b ha hb hab hd
  have hb' := List.mem_range.1 hb
  have h1 : ((b + 1 : Nat) : Int) - ((a + 1 : Nat) : Int) = ((b - a : Nat) : Int) := by omega
  rw [h1, Int.natCast_dvd_natCast] at hd
  have := Nat.le_of_dvd (by omega) hd
  omega

/-- not all elements have the exponent d, d < p - 1 -/
theorem exists_not_one {p d : Nat} (hp : Pr p) (hd : 1 ≤ d) (hlt : d < p - 1) : ∃ x, 1 ≤ x ∧ x < p ∧ x ^ d % p ≠ 1 := by
  apply Classical.byContradiction
  intro hc
  have hall : ∀ x, 1 ≤ x → x < p → x ^ d % p = 1 := by
    intro x h1 h2
    apply Classical.byContradiction
    intro h
    exact hc ⟨x, h1, h2, h⟩
  obtain ⟨e, rfl⟩ : ∃ e, d = e + 1 := ⟨d - 1, by omega⟩
  have := roots_le hp (e + 1) (pol (e + 1)) 1 (pol_len e) (pol_last e) (by
    intro h
    have h1 : p ∣ 1 := by have := nat_dvd.1 h; simpa using this
    have := Nat.le_of_dvd (by omega) h1
    have := hp.1
    omega) ((List.range (p - 1)).map (fun i => ((i + 1 : Nat) : Int))) (range_apart (p - 1) (by have := hp.1; omega)) (by
    intro x hx
    obtain ⟨i, hi, rfl⟩ := List.mem_map.1 hx
    have hi' := List.mem_range.1 hi
    rw [pol_ev]
    have h1 := hall (i + 1) (by omega) (by omega)
    have h2 : p ∣ (i + 1) ^ (e + 1) - 1 := dvd_sub_of_mod (h1.trans (Nat.mod_eq_of_lt (by have := hp.1; omega)).symm)
    have h3 : (((i + 1) ^ (e + 1) - 1 : Nat) : Int) = ((i + 1 : Nat) : Int) ^ (e + 1) - 1 := by
      rw [← Int.natCast_pow]
      have : 1 ≤ (i + 1) ^ (e + 1) := Nat.pow_pos (by omega)
      omega
    rw [← h3]
    exact Int.natCast_dvd_natCast.2 h2)
  simp at this
  omega

/-! a primitive root -/

theorem split_pr {n r : Nat} (hr : Pr r) (hn : 1 ≤ n) : ∃ e u, n = r ^ e * u ∧ ¬ r ∣ u := by
  induction n using Nat.strongRecOn with
  | ind n ih =>
    by_cases hd : r ∣ n
    · obtain ⟨c, hc⟩ := hd
      have h2 := hr.1
      have hc0 : 1 ≤ c := by rcases Nat.eq_zero_or_pos c with rfl | h; omega; exact h
      have hlt : c < n := by have := Nat.mul_le_mul h2 (Nat.le_refl c); omega
      obtain ⟨e, u, h1, h3⟩ := ih c hlt hc0
      exact ⟨e + 1, u, by rw [hc, h1, Nat.pow_succ]; grind, h3⟩
    · exact ⟨0, n, by rw [Nat.pow_zero, Nat.one_mul], hd⟩

theorem one_mod {p : Nat} (hp : Pr p) : 1 % p = 1 := Nat.mod_eq_of_lt (by have := hp.1; omega)

theorem not_dvd_of {p x : Nat} (hp : Pr p) (h1 : 1 ≤ x) (h2 : x < p) : ¬ p ∣ x := hp.not_dvd_lt h1 h2

theorem div_mul_dvd {n q u : Nat} (hq : q ∣ n) (hu : q ∣ u) : n ∣ u * (n / q) := by
  obtain ⟨c, hc⟩ := hu
  obtain ⟨m, hm⟩ := hq
  refine ⟨c, ?_⟩
  rcases Nat.eq_zero_or_pos q with h0 | h0
  · subst h0; rw [hc, hm]; simp
  · rw [hm, Nat.mul_div_cancel_left _ h0, hc]; grind

/-- for a prime factor r of p - 1: an element whose power is 1 for all other factors, not for r -/
theorem one_factor {p r : Nat} (hp : Pr p) (hr : Pr r) (hd : r ∣ p - 1) : ∃ y, ¬ p ∣ y ∧ y ^ ((p - 1) / r) % p ≠ 1 ∧ ∀ q, Pr q → q ∣ p - 1 → q ≠ r → y ^ ((p - 1) / q) % p = 1 := by
  have hp2 := hp.1
  have hr2 := hr.1
  have hle := Nat.le_of_dvd (by have := hp.1; by_cases h : p = 2; subst h; have := Nat.le_of_dvd (by omega) hd; omega; omega) hd
  obtain ⟨N, hN⟩ : ∃ N, N = p - 1 := ⟨_, rfl⟩
  have hdiv : 1 ≤ (p - 1) / r := Nat.div_pos hle (by omega)
  have hlt : (p - 1) / r < p - 1 := Nat.div_lt_self (by omega) (by omega)
  obtain ⟨x, hx1, hx2, hx⟩ := exists_not_one hp hdiv hlt
  have hpx := not_dvd_of hp hx1 hx2
  obtain ⟨e, u, hs, hu⟩ := split_pr (n := p - 1) hr (by omega)
  have hF : ∀ k, p - 1 ∣ k → x ^ k % p = 1 := by
    intro k hk
    have := pow_dvd_one ((fermat1 hp hpx).trans (one_mod hp).symm) hk
    rw [this, one_mod hp]
  refine ⟨x ^ u, fun h => hpx (hp.dvd_pow h), ?_, ?_⟩
  · intro h
    apply hx
    rw [← Nat.pow_mul, Nat.mul_comm, Nat.pow_mul] at h
    have h1 : (x ^ ((p - 1) / r)) ^ r % p = 1 := by
      rw [← Nat.pow_mul, Nat.div_mul_cancel hd]
      exact hF _ (Nat.dvd_refl _)
    have h2 := pow_gcd (h.trans (one_mod hp).symm) (h1.trans (one_mod hp).symm)
    have h3 : Nat.gcd u r = 1 := by
      have := hr.coprime hu
      rw [Nat.gcd_comm]; exact this
    rw [h3, Nat.pow_one, one_mod hp] at h2
    exact h2
  · intro q hq hqd hqr
    rw [← Nat.pow_mul]
    have hqu : q ∣ u := by
      rw [hs] at hqd
      rcases hq.dvd_mul hqd with h | h
      · exact absurd (hq.eq_of_dvd hr (hq.dvd_pow h)) hqr
      · exact h
    exact hF _ (div_mul_dvd hqd hqu)

theorem some_root {p : Nat} (hp : Pr p) (l : List Nat) (hl : ∀ q ∈ l, Pr q ∧ q ∣ p - 1) :
    ∃ g, ¬ p ∣ g ∧ (∀ q ∈ l, g ^ ((p - 1) / q) % p ≠ 1) ∧ ∀ q, Pr q → q ∣ p - 1 → q ∉ l → g ^ ((p - 1) / q) % p = 1 := by
  induction l with
  | nil => exact ⟨1, by intro h; have := Nat.le_of_dvd (by omega) h; have := hp.1; omega, by intro q hq; exact absurd hq (List.not_mem_nil), by intro q _ _ _; rw [Nat.one_pow, one_mod hp]⟩
  | cons r t ih =>
    obtain ⟨g, h1, h2, h3⟩ := ih (fun q hq => hl q (List.mem_cons_of_mem _ hq))
    by_cases hr : r ∈ t
    · refine ⟨g, h1, ?_, ?_⟩
      · intro q hq
        rcases List.mem_cons.1 hq with rfl | hq
        · exact h2 _ hr
        · exact h2 _ hq
      · intro q a b c
        exact h3 q a b (fun h => c (List.mem_cons_of_mem _ h))
    · obtain ⟨hrp, hrd⟩ := hl r List.mem_cons_self
      obtain ⟨y, y1, y2, y3⟩ := one_factor hp hrp hrd
      have hmul : ∀ k, (g * y) ^ k % p = (g ^ k % p) * (y ^ k % p) % p := by
        intro k; rw [Nat.mul_pow, Nat.mul_mod]
      refine ⟨g * y, ?_, ?_, ?_⟩
      · intro h
        rcases hp.dvd_mul h with h | h
        · exact h1 h
        · exact y1 h
      · intro q hq
        rw [hmul]
        rcases List.mem_cons.1 hq with hqr | hq
        · subst hqr; rw [h3 q hrp hrd hr, Nat.one_mul, Nat.mod_mod]; exact y2
        · have hq' := hl q (List.mem_cons_of_mem _ hq)
          have hne : q ≠ r := fun e => hr (e ▸ hq)
          rw [y3 q hq'.1 hq'.2 hne, Nat.mul_one, Nat.mod_mod]; exact h2 q hq
      · intro q a b c
        rw [hmul, h3 q a b (fun h => c (List.mem_cons_of_mem _ h)), y3 q a b (by rintro rfl; exact c List.mem_cons_self), Nat.mul_one, one_mod hp]

/-- no power with (p - 1) / q, q a prime factor, is 1 -/
def Gen (p g : Nat) : Prop := ∀ q ∈ facs (p - 1), g ^ ((p - 1) / q) % p ≠ 1

theorem gen_exists {p : Nat} (hp : Pr p) : ∃ g, 1 ≤ g ∧ g < p ∧ Gen p g := by
  have hp2 := hp.1
  have hf := facs_of (n := p - 1) (by omega)
  obtain ⟨g, h1, h2, _⟩ := some_root hp (facs (p - 1)) (fun q hq => ⟨hf.2.1 q hq, by have := dvd_mulAll hq; rw [hf.1] at this; exact this⟩)
  refine ⟨g % p, ?_, Nat.mod_lt _ (by omega), ?_⟩
  · rcases Nat.eq_zero_or_pos (g % p) with h | h
    · exact absurd (Nat.dvd_of_mod_eq_zero h) h1
    · exact h
  · intro q hq
    rw [← Nat.pow_mod]
    exact h2 q hq
end Go.Proofs.Ytnngkghmhbcgeaa.Num
