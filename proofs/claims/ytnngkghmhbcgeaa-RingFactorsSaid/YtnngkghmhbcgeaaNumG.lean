import Derived.Test.YtnngkghmhbcgeaaNumF
namespace Go.Proofs.Ytnngkghmhbcgeaa.Num

/-- the prime factors of n in increasing order -/
def FacOf (n : Nat) (l : List Nat) : Prop := mulAll l = n ∧ (∀ x ∈ l, Pr x) ∧ l.Pairwise (· ≤ ·)

theorem mulAll_append (a b : List Nat) : mulAll (a ++ b) = mulAll a * mulAll b := by
  induction a with
  | nil => show mulAll b = 1 * mulAll b; rw [Nat.one_mul]
  | cons x t ih => show x * mulAll (t ++ b) = x * mulAll t * mulAll b; rw [ih, Nat.mul_assoc]
theorem mulAll_pos {l : List Nat} (h : ∀ x ∈ l, Pr x) : 1 ≤ mulAll l := by
  induction l with
  | nil => exact Nat.le_refl 1
  | cons x t ih =>
    have h1 := (h x List.mem_cons_self).1
    have h2 := ih (fun y hy => h y (List.mem_cons_of_mem _ hy))
    show 1 ≤ x * mulAll t
    have := Nat.mul_le_mul h1 h2
    omega
theorem dvd_mulAll {x : Nat} {l : List Nat} (h : x ∈ l) : x ∣ mulAll l := by
  induction l with
  | nil => exact absurd h (List.not_mem_nil)
  | cons y t ih =>
    rcases List.mem_cons.1 h with rfl | h
    · exact ⟨_, rfl⟩
    · exact Nat.dvd_trans (ih h) ⟨y, by show y * mulAll t = _; rw [Nat.mul_comm]⟩
theorem Pr.mem_of_dvd {x : Nat} {l : List Nat} (hx : Pr x) (hl : ∀ y ∈ l, Pr y) (h : x ∣ mulAll l) : x ∈ l := by
  obtain ⟨y, hy, hd⟩ := hx.dvd_mulAll h
  rw [hx.eq_of_dvd (hl y hy) hd]; exact hy

theorem fac_unique {n : Nat} {l l' : List Nat} (h : FacOf n l) (h' : FacOf n l') : l = l' := by
  induction l generalizing n l' with
  | nil =>
    cases l' with
    | nil => rfl
    | cons y t =>
      exfalso
      have hy := (h'.2.1 y List.mem_cons_self).1
      have h1 : mulAll (y :: t) = 1 := h'.1.trans h.1.symm
      have h2 := mulAll_pos (fun z hz => h'.2.1 z (List.mem_cons_of_mem y hz))
      have h3 : y * mulAll t = 1 := h1
      have := Nat.mul_le_mul hy h2
      omega
  | cons a t ih =>
    cases l' with
    | nil =>
      exfalso
      have hy := (h.2.1 a List.mem_cons_self).1
      have h1 : mulAll (a :: t) = 1 := h.1.trans h'.1.symm
      have h2 := mulAll_pos (fun z hz => h.2.1 z (List.mem_cons_of_mem a hz))
      have h3 : a * mulAll t = 1 := h1
      have := Nat.mul_le_mul hy h2
      omega
    | cons b t' =>
      have ha : Pr a := h.2.1 a List.mem_cons_self
      have hb : Pr b := h'.2.1 b List.mem_cons_self
      have m1 : a ∈ b :: t' := ha.mem_of_dvd h'.2.1 (by rw [h'.1, ← h.1]; exact dvd_mulAll List.mem_cons_self)
      have m2 : b ∈ a :: t := hb.mem_of_dvd h.2.1 (by rw [h.1, ← h'.1]; exact dvd_mulAll List.mem_cons_self)
      have s1 := List.pairwise_cons.1 h.2.2
      have s2 := List.pairwise_cons.1 h'.2.2
      have hab : a = b := by
        rcases List.mem_cons.1 m1 with e | e
        · exact e
        · rcases List.mem_cons.1 m2 with e2 | e2
          · exact e2.symm
          · have := s2.1 a e; have := s1.1 b e2; omega
      subst hab
      have hm : mulAll t = mulAll t' := by
        have : a * mulAll t = a * mulAll t' := h.1.trans h'.1.symm
        exact Nat.eq_of_mul_eq_mul_left (by have := ha.1; omega) this
      rw [ih ⟨hm, fun x hx => h.2.1 x (List.mem_cons_of_mem _ hx), s1.2⟩ ⟨rfl, fun x hx => h'.2.1 x (List.mem_cons_of_mem _ hx), s2.2⟩]

theorem fac_exists {n : Nat} (h : 1 ≤ n) : ∃ l, FacOf n l := by
  induction n using Nat.strongRecOn with
  | ind n ih =>
    by_cases h1 : n = 1
    · subst h1; exact ⟨[], rfl, by intro x hx; exact absurd hx (List.not_mem_nil), List.Pairwise.nil⟩
    · obtain ⟨p, hp, ⟨c, hc⟩, hmin⟩ := exists_least (n := n) (by omega)
      have hp2 := hp.1
      have hc0 : 0 < c := by rcases Nat.eq_zero_or_pos c with rfl | h0; omega; exact h0
      have hlt : c < n := by
        have := Nat.mul_le_mul hp2 (Nat.le_refl c)
        omega
      obtain ⟨l, h2, h3, h4⟩ := ih c hlt hc0
      refine ⟨p :: l, by show p * mulAll l = n; rw [h2, hc], ?_, ?_⟩
      · intro x hx
        rcases List.mem_cons.1 hx with rfl | hx
        · exact hp
        · exact h3 x hx
      · refine List.pairwise_cons.2 ⟨fun x hx => hmin x (h3 x hx) ?_, h4⟩
        rw [hc, ← h2]
        exact Nat.dvd_trans (dvd_mulAll hx) ⟨p, by rw [Nat.mul_comm]⟩

noncomputable def facs (n : Nat) : List Nat := @dite _ (∃ l, FacOf n l) (Classical.propDecidable _) (fun h => Classical.choose h) (fun _ => [])
theorem facs_of {n : Nat} (h : 1 ≤ n) : FacOf n (facs n) := by
  have h1 := fac_exists h
  unfold facs
  rw [dif_pos h1]
  exact Classical.choose_spec h1
theorem facs_eq {n : Nat} {l : List Nat} (h : FacOf n l) : facs n = l :=
  fac_unique (facs_of (by rw [← h.1]; exact mulAll_pos h.2.1)) h

theorem two_pow_len {l : List Nat} (h : ∀ x ∈ l, Pr x) : 2 ^ l.length ≤ mulAll l := by
  induction l with
  | nil => exact Nat.le_refl 1
  | cons x t ih =>
    have h1 := (h x List.mem_cons_self).1
    have h2 := ih (fun y hy => h y (List.mem_cons_of_mem _ hy))
    show 2 ^ (t.length + 1) ≤ x * mulAll t
    rw [Nat.pow_succ, Nat.mul_comm]
    exact Nat.mul_le_mul h1 h2
theorem len_lt {l : List Nat} {n : Nat} (h : ∀ x ∈ l, Pr x) (hn : mulAll l ≤ n) (h2 : n < 4294967296) : l.length < 32 := by
  apply Classical.byContradiction
  intro hc
  have h1 := two_pow_len h
  have : 2 ^ 32 ≤ 2 ^ l.length := Nat.pow_le_pow_right (by omega) (by omega)
  omega

/-- what trial division has done -/
structure TD (n q m : Nat) (acc : List Nat) : Prop where
  prod : mulAll acc * m = n
  prs : ∀ x ∈ acc, Pr x
  asc : acc.Pairwise (· ≤ ·)
  le : ∀ x ∈ acc, x ≤ q
  none : ∀ d, 2 ≤ d → d < q → ¬ d ∣ m
  pos : 1 ≤ m

theorem TD.start {n : Nat} (h : 1 ≤ n) : TD n 2 n [] :=
  ⟨by show 1 * n = n; omega, by intro x hx; exact absurd hx (List.not_mem_nil), List.Pairwise.nil, by intro x hx; exact absurd hx (List.not_mem_nil), by intro d h1 h2; omega, h⟩
theorem TD.m_le {n q m : Nat} {acc : List Nat} (h : TD n q m acc) : m ≤ n := by
  have h1 := mulAll_pos h.prs
  have := Nat.mul_le_mul h1 (Nat.le_refl m)
  have := h.prod
  omega
theorem TD.acc_le {n q m : Nat} {acc : List Nat} (h : TD n q m acc) : mulAll acc ≤ n := by
  have := Nat.mul_le_mul (Nat.le_refl (mulAll acc)) h.pos
  have := h.prod
  omega
theorem snoc_asc {l : List Nat} {x : Nat} (h : l.Pairwise (· ≤ ·)) (hx : ∀ y ∈ l, y ≤ x) : (l ++ [x]).Pairwise (· ≤ ·) :=
  List.pairwise_append.2 ⟨h, List.pairwise_singleton _ _, fun a ha b hb => by rw [List.mem_singleton.1 hb]; exact hx a ha⟩
theorem TD.take {n q m : Nat} {acc : List Nat} (h : TD n q m acc) (h2 : 2 ≤ q) (hd : m % q = 0) : TD n q (m / q) (acc ++ [q]) := by
  have hdv := Nat.dvd_of_mod_eq_zero hd
  have hq : Pr q := by
    refine ⟨h2, fun d hdq => ?_⟩
    by_cases h1 : d = 1
    · exact Or.inl h1
    · by_cases hq : d = q
      · exact Or.inr hq
      · exfalso
        have hle := Nat.le_of_dvd (by omega) hdq
        have h0 : d ≠ 0 := by rintro rfl; have := Nat.eq_zero_of_zero_dvd hdq; omega
        exact h.none d (by omega) (by omega) (Nat.dvd_trans hdq hdv)
  have e : q * (m / q) = m := Nat.mul_div_cancel' hdv
  refine ⟨?_, ?_, snoc_asc h.asc h.le, ?_, ?_, ?_⟩
  · rw [mulAll_append]
    show mulAll acc * (q * 1) * (m / q) = n
    rw [Nat.mul_one, Nat.mul_assoc, e, h.prod]
  · intro x hx
    rcases List.mem_append.1 hx with h1 | h1
    · exact h.prs x h1
    · rw [List.mem_singleton.1 h1]; exact hq
  · intro x hx
    rcases List.mem_append.1 hx with h1 | h1
    · exact h.le x h1
    · rw [List.mem_singleton.1 h1]; exact Nat.le_refl q
  · intro d h1 h3 h4
    exact h.none d h1 h3 (Nat.dvd_trans h4 ⟨q, by rw [Nat.mul_comm]; exact e.symm⟩)
  · rcases Nat.eq_zero_or_pos (m / q) with h0 | h0
    · rw [h0] at e; have := h.pos; omega
    · exact h0
theorem TD.next {n q m : Nat} {acc : List Nat} (h : TD n q m acc) (hd : ¬ m % q = 0) : TD n (q + 1) m acc :=
  ⟨h.prod, h.prs, h.asc, fun x hx => Nat.le_trans (h.le x hx) (by omega), fun d h1 h2 h3 => by
    by_cases e : d = q
    · subst e; exact hd (Nat.mod_eq_zero_of_dvd h3)
    · exact h.none d h1 (by omega) h3, h.pos⟩
theorem TD.last {n q m : Nat} {acc : List Nat} (h : TD n q m acc) (hq : m < q * q) (h1 : 1 < m) : FacOf n (acc ++ [m]) := by
  have hm : Pr m := pr_trial (by omega) (fun d h2 h3 h4 => by
    refine h.none d h2 ?_ h4
    apply Classical.byContradiction
    intro hc
    have := Nat.mul_le_mul (show q ≤ d by omega) (show q ≤ d by omega)
    omega)
  have hqm : q ≤ m := by
    apply Classical.byContradiction
    intro hc
    exact h.none m (by omega) (by omega) (Nat.dvd_refl m)
  refine ⟨?_, ?_, snoc_asc h.asc (fun y hy => Nat.le_trans (h.le y hy) hqm)⟩
  · rw [mulAll_append]
    show mulAll acc * (m * 1) = n
    rw [Nat.mul_one, h.prod]
  · intro x hx
    rcases List.mem_append.1 hx with h2 | h2
    · exact h.prs x h2
    · rw [List.mem_singleton.1 h2]; exact hm
theorem TD.done {n q m : Nat} {acc : List Nat} (h : TD n q m acc) (h1 : ¬ 1 < m) : FacOf n acc := by
  have := h.pos
  have e : m = 1 := by omega
  subst e
  exact ⟨by have := h.prod; rw [Nat.mul_one] at this; exact this, h.prs, h.asc⟩

theorem facs_pr {n : Nat} (h2 : 2 ≤ n) : Pr n ↔ (facs n).length = 1 := by
  constructor
  · intro h
    rw [facs_eq (l := [n]) ⟨by show n * 1 = n; omega, by intro x hx; rw [List.mem_singleton.1 hx]; exact h, List.pairwise_singleton _ _⟩]
    rfl
  · intro h
    have hf := facs_of (n := n) (by omega)
    obtain ⟨x, hx⟩ := List.length_eq_one_iff.1 h
    rw [hx] at hf
    have e : x * 1 = n := hf.1
    rw [← show x = n by omega]
    exact hf.2.1 x (List.mem_singleton.2 rfl)
end Go.Proofs.Ytnngkghmhbcgeaa.Num
