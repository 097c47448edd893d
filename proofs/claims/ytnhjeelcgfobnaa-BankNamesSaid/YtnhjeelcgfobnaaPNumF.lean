/-
  
-/
import Derived.Test.YtnhjeelcgfobnaaNumE
namespace Go.Proofs.Ytnhjeelcgfobnaa.Num

theorem split_unique {t m t' m' : Nat} (hm : m % 2 = 1) (hm' : m' % 2 = 1) (h : 2 ^ t * m = 2 ^ t' * m') : t = t' ∧ m = m' := by
  induction t generalizing t' with
  | zero =>
    cases t' with
    | zero => rw [Nat.pow_zero, Nat.one_mul, Nat.one_mul] at h; exact ⟨rfl, h⟩
    | succ t' => rw [Nat.pow_zero, Nat.one_mul, Nat.pow_succ, Nat.mul_comm (2 ^ t') 2, Nat.mul_assoc] at h; omega
  | succ t ih =>
    cases t' with
    | zero => rw [Nat.pow_zero, Nat.one_mul, Nat.pow_succ, Nat.mul_comm (2 ^ t) 2, Nat.mul_assoc] at h; omega
    | succ t' =>
      rw [Nat.pow_succ, Nat.mul_comm (2 ^ t) 2, Nat.mul_assoc, Nat.pow_succ, Nat.mul_comm (2 ^ t') 2, Nat.mul_assoc] at h
      obtain ⟨a, b⟩ := ih (t' := t') (by omega)
      exact ⟨by omega, b⟩

/-- a square root of 1 is 1 or -1 -/
theorem Pr.sqrt_one {p x : Nat} (hp : Pr p) (h : x * x % p = 1) : x % p = 1 ∨ x % p = p - 1 := by
  have h2 := hp.1
  have hx0 : x ≠ 0 := by rintro rfl; rw [Nat.mul_zero, Nat.zero_mod] at h; omega
  have h1 : x * x % p = 1 % p := h.trans (Nat.mod_eq_of_lt (by omega)).symm
  have hd := dvd_sub_of_mod h1
  have e : x * x - 1 = (x - 1) * (x + 1) := by
    obtain ⟨y, rfl⟩ : ∃ y, x = y + 1 := ⟨x - 1, by omega⟩
    have : (y + 1) * (y + 1) = y * (y + 1 + 1) + 1 := by grind
    rw [this, Nat.add_sub_cancel, Nat.add_sub_cancel]
  rw [e] at hd
  rcases hp.dvd_mul hd with h3 | h3
  · left
    rw [mod_of_dvd_sub (by omega) h3]
    exact Nat.mod_eq_of_lt (by omega)
  · right
    obtain ⟨c, hc⟩ := h3
    have hc0 : c ≠ 0 := by rintro rfl; omega
    obtain ⟨f, rfl⟩ : ∃ f, c = f + 1 := ⟨c - 1, by omega⟩
    have : x = (p - 1) + p * f := by rw [Nat.mul_add, Nat.mul_one] at hc; omega
    rw [this, Nat.add_mul_mod_self_left]
    exact Nat.mod_eq_of_lt (by omega)

/-- a prime number passes -/
theorem pr_sp {n t d a : Nat} (hp : Pr n) (hn : n - 1 = 2 ^ t * d) (ha : ¬ n ∣ a) : SP n t d a := by
  have h1 := fermat1 hp ha
  rw [hn] at h1
  have key : ∀ t, a ^ (2 ^ t * d) % n = 1 → SP n t d a := by
    intro t
    induction t with
    | zero => intro h; rw [Nat.pow_zero, Nat.one_mul] at h; exact Or.inl h
    | succ t ih =>
      intro h
      have e : a ^ (2 ^ (t + 1) * d) = a ^ (2 ^ t * d) * a ^ (2 ^ t * d) := by
        rw [← Nat.pow_add]; congr 1; rw [Nat.pow_succ]; grind
      rw [e] at h
      rcases hp.sqrt_one h with h2 | h2
      · rcases ih h2 with h3 | ⟨i, hi, h3⟩
        · exact Or.inl h3
        · exact Or.inr ⟨i, by omega, h3⟩
      · exact Or.inr ⟨t, by omega, h2⟩
  exact key t h1

/-- the four tests, however n - 1 is split -/
theorem sp_pr {n t d : Nat} (hn2 : 2 ≤ n) (hn : n ≤ 2000000000) (hs : n - 1 = 2 ^ t * d) (hd : d % 2 = 1)
    (h2 : ¬ 2 ∣ n) (h3 : ¬ 3 ∣ n) (h5 : ¬ 5 ∣ n) (h7 : ¬ 7 ∣ n) (a : SP n t d 2) (b : SP n t d 3) (c : SP n t d 5) (e : SP n t d 7) : Pr n := by
  have h := split_eq 32 (n - 1)
  have ho : oddp 32 (n - 1) % 2 = 1 := oddp_odd (by omega) (by omega)
  obtain ⟨e1, e2⟩ := split_unique hd ho (hs.symm.trans h.symm)
  subst e1 e2
  have hlt : oddp 32 (n - 1) < 2 ^ 32 := by have := oddp_le 32 (n - 1); omega
  refine passes_pr hn2 hn h2 h3 h5 h7 ?_
  unfold passes
  rw [(stB_iff hlt).2 a, (stB_iff hlt).2 b, (stB_iff hlt).2 c, (stB_iff hlt).2 e]
  rfl

noncomputable def primeB (n : Nat) : Bool := @decide (Pr n) (Classical.propDecidable _)
theorem primeB_true {n : Nat} (h : Pr n) : primeB n = true := by unfold primeB; exact @decide_eq_true _ (Classical.propDecidable _) h
theorem primeB_false {n : Nat} (h : ¬ Pr n) : primeB n = false := by unfold primeB; exact @decide_eq_false _ (Classical.propDecidable _) h
theorem primeB_iff {n : Nat} : primeB n = true ↔ Pr n := by unfold primeB; exact @decide_eq_true_iff _ (Classical.propDecidable _)
theorem primeB_dvd {n q : Nat} (hq : Pr q) (hd : n % q = 0) : primeB n = Nat.beq n q := by
  have hd' := Nat.dvd_of_mod_eq_zero hd
  by_cases h : n = q
  · subst h; rw [primeB_true hq, Nat.beq_refl]
  · rw [primeB_false, (beq_false_iff.2 h)]
    intro hp
    exact h (hq.eq_of_dvd hp hd').symm
end Go.Proofs.Ytnhjeelcgfobnaa.Num
namespace Go.Proofs.Ytnhjeelcgfobnaa.Num

/-- the prime factors of n in increasing order -/
def FacOf (n : Nat) (l : List Nat) : Prop := mulAll l = n ∧ (∀ x ∈ l, Pr x) ∧ l.Pairwise (· ≤ ·)

theorem mulAll_append (a b : List Nat) : mulAll (a ++ b) = mulAll a * mulAll b := by
  induction a with
  | nil => show mulAll b = 1 * mulAll b; rw [Nat.one_mul]
  | cons x t ih => show x * mulAll (t ++ b) = x * mulAll t * mulAll b; rw [ih, Nat.mul_assoc]
theorem mulAll_pos {l : List Nat} (h : ∀ x ∈ l, Pr x) : 1 ≤ mulAll l := by
  induction l with
  | nil => exact Nat.le_refl 1
  | cons x t ih =>
    have h1 := (h x List.mem_cons_self).1
    have h2 := ih (fun y hy => h y (List.mem_cons_of_mem _ hy))
    show 1 ≤ x * mulAll t
    have := Nat.mul_le_mul h1 h2
    omega
theorem dvd_mulAll {x : Nat} {l : List Nat} (h : x ∈ l) : x ∣ mulAll l := by
  induction l with
  | nil => exact absurd h (List.not_mem_nil)
  | cons y t ih =>
    rcases List.mem_cons.1 h with rfl | h
    · exact ⟨_, rfl⟩
    · exact Nat.dvd_trans (ih h) ⟨y, by show y * mulAll t = _; rw [Nat.mul_comm]⟩
theorem Pr.mem_of_dvd {x : Nat} {l : List Nat} (hx : Pr x) (hl : ∀ y ∈ l, Pr y) (h : x ∣ mulAll l) : x ∈ l := by
  obtain ⟨y, hy, hd⟩ := hx.dvd_mulAll h
  rw [hx.eq_of_dvd (hl y hy) hd]; exact hy

theorem fac_unique {n : Nat} {l l' : List Nat} (h : FacOf n l) (h' : FacOf n l') : l = l' := by
  induction l generalizing n l' with
  | nil =>
    cases l' with
    | nil => rfl
    | cons y t =>
      exfalso
      have hy := (h'.2.1 y List.mem_cons_self).1
      have h1 : mulAll (y :: t) = 1 := h'.1.trans h.1.symm
      have h2 := mulAll_pos (fun z hz => h'.2.1 z (List.mem_cons_of_mem y hz))
      have h3 : y * mulAll t = 1 := h1
      have := Nat.mul_le_mul hy h2
      omega
  | cons a t ih =>
    cases l' with
    | nil =>
      exfalso
      have hy := (h.2.1 a List.mem_cons_self).1
      have h1 : mulAll (a :: t) = 1 := h.1.trans h'.1.symm
      have h2 := mulAll_pos (fun z hz => h.2.1 z (List.mem_cons_of_mem a hz))
      have h3 : a * mulAll t = 1 := h1
      have := Nat.mul_le_mul hy h2
      omega
    | cons b t' =>
      have ha : Pr a := h.2.1 a List.mem_cons_self
      have hb : Pr b := h'.2.1 b List.mem_cons_self
      have m1 : a ∈ b :: t' := ha.mem_of_dvd h'.2.1 (by rw [h'.1, ← h.1]; exact dvd_mulAll List.mem_cons_self)
      have m2 : b ∈ a :: t := hb.mem_of_dvd h.2.1 (by rw [h.1, ← h'.1]; exact dvd_mulAll List.mem_cons_self)
      have s1 := List.pairwise_cons.1 h.2.2
      have s2 := List.pairwise_cons.1 h'.2.2
      have hab : a = b := by
        rcases List.mem_cons.1 m1 with e | e
        · exact e
        · rcases List.mem_cons.1 m2 with e2 | e2
          · exact e2.symm
          · have := s2.1 a e; have := s1.1 b e2; omega
      subst hab
      have hm : mulAll t = mulAll t' := by
        have : a * mulAll t = a * mulAll t' := h.1.trans h'.1.symm
        exact Nat.eq_of_mul_eq_mul_left (by have := ha.1; omega) this
      rw [ih ⟨hm, fun x hx => h.2.1 x (List.mem_cons_of_mem _ hx), s1.2⟩ ⟨rfl, fun x hx => h'.2.1 x (List.mem_cons_of_mem _ hx), s2.2⟩]

theorem fac_exists {n : Nat} (h : 1 ≤ n) : ∃ l, FacOf n l := by
  induction n using Nat.strongRecOn with
  | ind n ih =>
    by_cases h1 : n = 1
    · subst h1; exact ⟨[], rfl, by intro x hx; exact absurd hx (List.not_mem_nil), List.Pairwise.nil⟩
    · obtain ⟨p, hp, ⟨c, hc⟩, hmin⟩ := exists_least (n := n) (by omega)
      have hp2 := hp.1
      have hc0 : 0 < c := by rcases Nat.eq_zero_or_pos c with rfl | h0; omega; exact h0
      have hlt : c < n := by
        have := Nat.mul_le_mul hp2 (Nat.le_refl c)
        omega
      obtain ⟨l, h2, h3, h4⟩ := ih c hlt hc0
      refine ⟨p :: l, by show p * mulAll l = n; rw [h2, hc], ?_, ?_⟩
      · intro x hx
        rcases List.mem_cons.1 hx with rfl | hx
        · exact hp
        · exact h3 x hx
      · refine List.pairwise_cons.2 ⟨fun x hx => hmin x (h3 x hx) ?_, h4⟩
        rw [hc, ← h2]
        exact Nat.dvd_trans (dvd_mulAll hx) ⟨p, by rw [Nat.mul_comm]⟩

noncomputable def facs (n : Nat) : List Nat := @dite _ (∃ l, FacOf n l) (Classical.propDecidable _) (fun h => Classical.choose h) (fun _ => [])
theorem facs_of {n : Nat} (h : 1 ≤ n) : FacOf n (facs n) := by
  have h1 := fac_exists h
  unfold facs
  rw [dif_pos h1]
  exact Classical.choose_spec h1
theorem facs_eq {n : Nat} {l : List Nat} (h : FacOf n l) : facs n = l :=
  fac_unique (facs_of (by rw [← h.1]; exact mulAll_pos h.2.1)) h

theorem two_pow_len {l : List Nat} (h : ∀ x ∈ l, Pr x) : 2 ^ l.length ≤ mulAll l := by
  induction l with
  | nil => exact Nat.le_refl 1
  | cons x t ih =>
    have h1 := (h x List.mem_cons_self).1
    have h2 := ih (fun y hy => h y (List.mem_cons_of_mem _ hy))
    show 2 ^ (t.length + 1) ≤ x * mulAll t
    rw [Nat.pow_succ, Nat.mul_comm]
    exact Nat.mul_le_mul h1 h2
theorem len_lt {l : List Nat} {n : Nat} (h : ∀ x ∈ l, Pr x) (hn : mulAll l ≤ n) (h2 : n < 4294967296) : l.length < 32 := by
  apply Classical.byContradiction
  intro hc
  have h1 := two_pow_len h
  have : 2 ^ 32 ≤ 2 ^ l.length := Nat.pow_le_pow_right (by omega) (by omega)
  omega

/-- what trial division has done -/
structure TD (n q m : Nat) (acc : List Nat) : Prop where
  prod : mulAll acc * m = n
  prs : ∀ x ∈ acc, Pr x
  asc : acc.Pairwise (· ≤ ·)
  le : ∀ x ∈ acc, x ≤ q
  none : ∀ d, 2 ≤ d → d < q → ¬ d ∣ m
  pos : 1 ≤ m

theorem TD.start {n : Nat} (h : 1 ≤ n) : TD n 2 n [] :=
  ⟨by show 1 * n = n; omega, by intro x hx; exact absurd hx (List.not_mem_nil), List.Pairwise.nil, by intro x hx; exact absurd hx (List.not_mem_nil), by intro d h1 h2; omega, h⟩
theorem TD.m_le {n q m : Nat} {acc : List Nat} (h : TD n q m acc) : m ≤ n := by
  have h1 := mulAll_pos h.prs
  have := Nat.mul_le_mul h1 (Nat.le_refl m)
  have := h.prod
  omega
theorem TD.acc_le {n q m : Nat} {acc : List Nat} (h : TD n q m acc) : mulAll acc ≤ n := by
  have := Nat.mul_le_mul (Nat.le_refl (mulAll acc)) h.pos
  have := h.prod
  omega
theorem snoc_asc {l : List Nat} {x : Nat} (h : l.Pairwise (· ≤ ·)) (hx : ∀ y ∈ l, y ≤ x) : (l ++ [x]).Pairwise (· ≤ ·) :=
  List.pairwise_append.2 ⟨h, List.pairwise_singleton _ _, fun a ha b hb => by rw [List.mem_singleton.1 hb]; exact hx a ha⟩
theorem TD.take {n q m : Nat} {acc : List Nat} (h : TD n q m acc) (h2 : 2 ≤ q) (hd : m % q = 0) : TD n q (m / q) (acc ++ [q]) := by
  have hdv := Nat.dvd_of_mod_eq_zero hd
  have hq : Pr q := by
    refine ⟨h2, fun d hdq => ?_⟩
    by_cases h1 : d = 1
    · exact Or.inl h1
    · by_cases hq : d = q
      · exact Or.inr hq
      · exfalso
        have hle := Nat.le_of_dvd (by omega) hdq
        have h0 : d ≠ 0 := by rintro rfl; have := Nat.eq_zero_of_zero_dvd hdq; omega
        exact h.none d (by omega) (by omega) (Nat.dvd_trans hdq hdv)
  have e : q * (m / q) = m := Nat.mul_div_cancel' hdv
  refine ⟨?_, ?_, snoc_asc h.asc h.le, ?_, ?_, ?_⟩
  · rw [mulAll_append]
    show mulAll acc * (q * 1) * (m / q) = n
    rw [Nat.mul_one, Nat.mul_assoc, e, h.prod]
  · intro x hx
    rcases List.mem_append.1 hx with h1 | h1
    · exact h.prs x h1
    · rw [List.mem_singleton.1 h1]; exact hq
  · intro x hx
    rcases List.mem_append.1 hx with h1 | h1
    · exact h.le x h1
    · rw [List.mem_singleton.1 h1]; exact Nat.le_refl q
  · intro d h1 h3 h4
    exact h.none d h1 h3 (Nat.dvd_trans h4 ⟨q, by rw [Nat.mul_comm]; exact e.symm⟩)
  · rcases Nat.eq_zero_or_pos (m / q) with h0 | h0
    · rw [h0] at e; have := h.pos; omega
    · exact h0
theorem TD.next {n q m : Nat} {acc : List Nat} (h : TD n q m acc) (hd : ¬ m % q = 0) : TD n (q + 1) m acc :=
  ⟨h.prod, h.prs, h.asc, fun x hx => Nat.le_trans (h.le x hx) (by omega), fun d h1 h2 h3 => by
    by_cases e : d = q
    · subst e; exact hd (Nat.mod_eq_zero_of_dvd h3)
    · exact h.none d h1 (by omega) h3, h.pos⟩
theorem TD.last {n q m : Nat} {acc : List Nat} (h : TD n q m acc) (hq : m < q * q) (h1 : 1 < m) : FacOf n (acc ++ [m]) := by
  have hm : Pr m := pr_trial (by omega) (fun d h2 h3 h4 => by
    refine h.none d h2 ?_ h4
    apply Classical.byContradiction
    intro hc
    have := Nat.mul_le_mul (show q ≤ d by omega) (show q ≤ d by omega)
    omega)
  have hqm : q ≤ m := by
    apply Classical.byContradiction
    intro hc
    exact h.none m (by omega) (by omega) (Nat.dvd_refl m)
  refine ⟨?_, ?_, snoc_asc h.asc (fun y hy => Nat.le_trans (h.le y hy) hqm)⟩
  · rw [mulAll_append]
    show mulAll acc * (m * 1) = n
    rw [Nat.mul_one, h.prod]
  · intro x hx
    rcases List.mem_append.1 hx with h2 | h2
    · exact h.prs x h2
    · rw [List.mem_singleton.1 h2]; exact hm
theorem TD.done {n q m : Nat} {acc : List Nat} (h : TD n q m acc) (h1 : ¬ 1 < m) : FacOf n acc := by
  have := h.pos
  have e : m = 1 := by omega
  subst e
  exact ⟨by have := h.prod; rw [Nat.mul_one] at this; exact this, h.prs, h.asc⟩

theorem facs_pr {n : Nat} (h2 : 2 ≤ n) : Pr n ↔ (facs n).length = 1 := by
  constructor
  · intro h
    rw [facs_eq (l := [n]) ⟨by show n * 1 = n; omega, by intro x hx; rw [List.mem_singleton.1 hx]; exact h, List.pairwise_singleton _ _⟩]
    rfl
  · intro h
    have hf := facs_of (n := n) (by omega)
    obtain ⟨x, hx⟩ := List.length_eq_one_iff.1 h
    rw [hx] at hf
    have e : x * 1 = n := hf.1
    rw [← show x = n by omega]
    exact hf.2.1 x (List.mem_singleton.2 rfl)
end Go.Proofs.Ytnhjeelcgfobnaa.Num
namespace Go.Proofs.Ytnhjeelcgfobnaa.Num

/-! roots of polynomials modulo a prime -/

def ev : List Int → Int → Int
  | [], _ => 0
  | c :: t, x => c + x * ev t x

/-- t + r * u, u shorter than t -/
def addS (r : Int) : List Int → List Int → List Int
  | [], _ => []
  | t, [] => t
  | a :: t, b :: u => (a + r * b) :: addS r t u

theorem addS_ev (r : Int) (t u : List Int) (h : u.length ≤ t.length) (x : Int) : ev (addS r t u) x = ev t x + r * ev u x := by
  induction t generalizing u with
  | nil =>
    have : u = [] := by cases u with
      | nil => rfl
      | cons _ _ => simp at h
    subst this
    show (0 : Int) = 0 + r * 0
    omega
  | cons a t ih =>
    cases u with
    | nil => show ev (a :: t) x = ev (a :: t) x + r * 0; omega
    | cons b u =>
      show (a + r * b) + x * ev (addS r t u) x = (a + x * ev t x) + r * (b + x * ev u x)
      rw [ih u (by simpa using h)]
      grind
theorem addS_len (r : Int) (t u : List Int) : (addS r t u).length = t.length := by
  induction t generalizing u with
  | nil => cases u <;> rfl
  | cons a t ih =>
    cases u with
    | nil => rfl
    | cons b u => show (addS r t u).length + 1 = t.length + 1; rw [ih]
theorem addS_last (r : Int) (t u : List Int) (h : u.length < t.length) : (addS r t u).getLast? = t.getLast? := by
  induction t generalizing u with
  | nil => simp at h
  | cons a t ih =>
    cases u with
    | nil => rfl
    | cons b u =>
      have h' : u.length < t.length := by simpa using h
      show ((a + r * b) :: addS r t u).getLast? = (a :: t).getLast?
      have e := ih u h'
      cases ht : t with
      | nil => rw [ht] at h'; simp at h'
      | cons c t' =>
        rw [ht] at e
        cases hs : addS r (c :: t') u with
        | nil => have := addS_len r (c :: t') u; rw [hs] at this; simp at this
        | cons d s =>
          rw [hs] at e
          rw [List.getLast?_cons_cons, List.getLast?_cons_cons]
          exact e
def quo (r : Int) : List Int → List Int
  | [] => []
  | _ :: t => addS r t (quo r t)
theorem quo_len (r : Int) (f : List Int) : (quo r f).length = f.length - 1 := by
  cases f with
  | nil => rfl
  | cons c t => show (addS r t (quo r t)).length = _; rw [addS_len]; simp
theorem quo_ev (r : Int) (f : List Int) (x : Int) : ev f x - ev f r = (x - r) * ev (quo r f) x := by
  induction f with
  | nil => show (0 : Int) - 0 = (x - r) * 0; omega
  | cons c t ih =>
    show (c + x * ev t x) - (c + r * ev t r) = (x - r) * ev (addS r t (quo r t)) x
    rw [addS_ev r t (quo r t) (by rw [quo_len]; omega)]
    grind
theorem quo_last (r : Int) (f : List Int) (h : 2 ≤ f.length) : (quo r f).getLast? = f.getLast? := by
  cases f with
  | nil => simp at h
  | cons c t =>
    show (addS r t (quo r t)).getLast? = _
    have h1 : 1 ≤ t.length := by simpa using h
    rw [addS_last r t (quo r t) (by rw [quo_len]; omega)]
    cases t with
    | nil => simp at h1
    | cons d t => rw [List.getLast?_cons_cons]

theorem nat_dvd {p : Nat} {a : Int} : (p : Int) ∣ a ↔ p ∣ a.natAbs := by
  rw [← Int.natCast_dvd_natCast, Int.dvd_natAbs]
theorem Pr.int_dvd_mul {p : Nat} (hp : Pr p) {a b : Int} (h : (p : Int) ∣ a * b) : (p : Int) ∣ a ∨ (p : Int) ∣ b := by
  have h1 : p ∣ (a * b).natAbs := nat_dvd.1 h
  rw [Int.natAbs_mul] at h1
  rcases hp.dvd_mul h1 with h2 | h2
  · exact Or.inl (nat_dvd.2 h2)
  · exact Or.inr (nat_dvd.2 h2)

theorem roots_le {p : Nat} (hp : Pr p) : ∀ (d : Nat) (f : List Int) (c : Int), f.length = d + 1 → f.getLast? = some c → ¬ (p : Int) ∣ c →
    ∀ S : List Int, S.Pairwise (fun x y => ¬ (p : Int) ∣ y - x) → (∀ x ∈ S, (p : Int) ∣ ev f x) → S.length ≤ d := by
  intro d
  induction d with
  | zero =>
    intro f c hl hlast hc S _ hS
    cases S with
    | nil => exact Nat.le_refl 0
    | cons r S =>
      exfalso
      obtain ⟨a, rfl⟩ := List.length_eq_one_iff.1 hl
      have h1 := hS r List.mem_cons_self
      have h2 : ev [a] r = a := by show a + r * 0 = a; omega
      rw [h2] at h1
      injection hlast with e
      exact hc (e ▸ h1)
  | succ d ih =>
    intro f c hl hlast hc S hpw hS
    cases S with
    | nil => exact Nat.zero_le _
    | cons r S =>
      have hpw' := List.pairwise_cons.1 hpw
      have hr := hS r List.mem_cons_self
      have := ih (quo r f) c (by rw [quo_len, hl]; rfl) (by rw [quo_last r f (by omega)]; exact hlast) hc S hpw'.2 (by
        intro x hx
        have hfx := hS x (List.mem_cons_of_mem _ hx)
        have h1 : (p : Int) ∣ (x - r) * ev (quo r f) x := by rw [← quo_ev]; exact Int.dvd_sub hfx hr
        rcases hp.int_dvd_mul h1 with h2 | h2
        · exact absurd h2 (hpw'.1 x hx)
        · exact h2)
      show S.length + 1 ≤ d + 1
      omega

/-- x^d - 1 -/
def mono : Nat → List Int
  | 0 => [1]
  | d + 1 => 0 :: mono d
theorem mono_ev (d : Nat) (x : Int) : ev (mono d) x = x ^ d := by
  induction d with
  | zero => rw [Int.pow_zero]; show 1 + x * 0 = 1; omega
  | succ d ih => show 0 + x * ev (mono d) x = x ^ (d + 1); rw [ih, Int.pow_succ, Int.mul_comm]; omega
theorem mono_len (d : Nat) : (mono d).length = d + 1 := by
  induction d with
  | zero => rfl
  | succ d ih => show (mono d).length + 1 = _; rw [ih]
theorem mono_last (d : Nat) : (mono d).getLast? = some 1 := by
  induction d with
  | zero => rfl
  | succ d ih =>
    show (0 :: mono d).getLast? = _
    cases h : mono d with
    | nil => have := mono_len d; rw [h] at this; simp at this
    | cons a t => rw [List.getLast?_cons_cons, ← h]; exact ih
def pol : Nat → List Int
  | 0 => []
  | d + 1 => (-1) :: mono d
theorem pol_ev (d : Nat) (x : Int) : ev (pol (d + 1)) x = x ^ (d + 1) - 1 := by
  show -1 + x * ev (mono d) x = _
  rw [mono_ev, Int.pow_succ, Int.mul_comm]; omega
theorem pol_len (d : Nat) : (pol (d + 1)).length = d + 1 + 1 := by show (mono d).length + 1 = _; rw [mono_len]
theorem pol_last (d : Nat) : (pol (d + 1)).getLast? = some 1 := by
  show ((-1) :: mono d).getLast? = _
  cases h : mono d with
  | nil => have := mono_len d; rw [h] at this; simp at this
  | cons a t => rw [List.getLast?_cons_cons, ← h]; exact mono_last d

theorem range_apart {p : Nat} (n : Nat) (h : n < p) : ((List.range n).map (fun i => ((i + 1 : Nat) : Int))).Pairwise (fun x y => ¬ (p : Int) ∣ y - x) := by
  rw [List.pairwise_map]
  have := List.pairwise_lt_range (n := n)
  refine List.Pairwise.imp_of_mem ?_ this
  intro a b ha hb hab hd
  have hb' := List.mem_range.1 hb
  have h1 : ((b + 1 : Nat) : Int) - ((a + 1 : Nat) : Int) = ((b - a : Nat) : Int) := by omega
  rw [h1, Int.natCast_dvd_natCast] at hd
  have := Nat.le_of_dvd (by omega) hd
  omega

/-- not all elements have the exponent d, d < p - 1 -/
theorem exists_not_one {p d : Nat} (hp : Pr p) (hd : 1 ≤ d) (hlt : d < p - 1) : ∃ x, 1 ≤ x ∧ x < p ∧ x ^ d % p ≠ 1 := by
  apply Classical.byContradiction
  intro hc
  have hall : ∀ x, 1 ≤ x → x < p → x ^ d % p = 1 := by
    intro x h1 h2
    apply Classical.byContradiction
    intro h
    exact hc ⟨x, h1, h2, h⟩
  obtain ⟨e, rfl⟩ : ∃ e, d = e + 1 := ⟨d - 1, by omega⟩
  have := roots_le hp (e + 1) (pol (e + 1)) 1 (pol_len e) (pol_last e) (by
    intro h
    have h1 : p ∣ 1 := by have := nat_dvd.1 h; simpa using this
    have := Nat.le_of_dvd (by omega) h1
    have := hp.1
    omega) ((List.range (p - 1)).map (fun i => ((i + 1 : Nat) : Int))) (range_apart (p - 1) (by have := hp.1; omega)) (by
    intro x hx
    obtain ⟨i, hi, rfl⟩ := List.mem_map.1 hx
    have hi' := List.mem_range.1 hi
    rw [pol_ev]
    have h1 := hall (i + 1) (by omega) (by omega)
    have h2 : p ∣ (i + 1) ^ (e + 1) - 1 := dvd_sub_of_mod (h1.trans (Nat.mod_eq_of_lt (by have := hp.1; omega)).symm)
    have h3 : (((i + 1) ^ (e + 1) - 1 : Nat) : Int) = ((i + 1 : Nat) : Int) ^ (e + 1) - 1 := by
      rw [← Int.natCast_pow]
      have : 1 ≤ (i + 1) ^ (e + 1) := Nat.pow_pos (by omega)
      omega
    rw [← h3]
    exact Int.natCast_dvd_natCast.2 h2)
  simp at this
  omega

/-! a primitive root -/

theorem split_pr {n r : Nat} (hr : Pr r) (hn : 1 ≤ n) : ∃ e u, n = r ^ e * u ∧ ¬ r ∣ u := by
  induction n using Nat.strongRecOn with
  | ind n ih =>
    by_cases hd : r ∣ n
    · obtain ⟨c, hc⟩ := hd
      have h2 := hr.1
      have hc0 : 1 ≤ c := by rcases Nat.eq_zero_or_pos c with rfl | h; omega; exact h
      have hlt : c < n := by have := Nat.mul_le_mul h2 (Nat.le_refl c); omega
      obtain ⟨e, u, h1, h3⟩ := ih c hlt hc0
      exact ⟨e + 1, u, by rw [hc, h1, Nat.pow_succ]; grind, h3⟩
    · exact ⟨0, n, by rw [Nat.pow_zero, Nat.one_mul], hd⟩

theorem one_mod {p : Nat} (hp : Pr p) : 1 % p = 1 := Nat.mod_eq_of_lt (by have := hp.1; omega)

theorem not_dvd_of {p x : Nat} (hp : Pr p) (h1 : 1 ≤ x) (h2 : x < p) : ¬ p ∣ x := hp.not_dvd_lt h1 h2

theorem div_mul_dvd {n q u : Nat} (hq : q ∣ n) (hu : q ∣ u) : n ∣ u * (n / q) := by
  obtain ⟨c, hc⟩ := hu
  obtain ⟨m, hm⟩ := hq
  refine ⟨c, ?_⟩
  rcases Nat.eq_zero_or_pos q with h0 | h0
  · subst h0; rw [hc, hm]; simp
  · rw [hm, Nat.mul_div_cancel_left _ h0, hc]; grind

/-- for a prime factor r of p - 1: an element whose power is 1 for all other factors, not for r -/
theorem one_factor {p r : Nat} (hp : Pr p) (hr : Pr r) (hd : r ∣ p - 1) : ∃ y, ¬ p ∣ y ∧ y ^ ((p - 1) / r) % p ≠ 1 ∧ ∀ q, Pr q → q ∣ p - 1 → q ≠ r → y ^ ((p - 1) / q) % p = 1 := by
  have hp2 := hp.1
  have hr2 := hr.1
  have hle := Nat.le_of_dvd (by have := hp.1; by_cases h : p = 2; subst h; have := Nat.le_of_dvd (by omega) hd; omega; omega) hd
  obtain ⟨N, hN⟩ : ∃ N, N = p - 1 := ⟨_, rfl⟩
  have hdiv : 1 ≤ (p - 1) / r := Nat.div_pos hle (by omega)
  have hlt : (p - 1) / r < p - 1 := Nat.div_lt_self (by omega) (by omega)
  obtain ⟨x, hx1, hx2, hx⟩ := exists_not_one hp hdiv hlt
  have hpx := not_dvd_of hp hx1 hx2
  obtain ⟨e, u, hs, hu⟩ := split_pr (n := p - 1) hr (by omega)
  have hF : ∀ k, p - 1 ∣ k → x ^ k % p = 1 := by
    intro k hk
    have := pow_dvd_one ((fermat1 hp hpx).trans (one_mod hp).symm) hk
    rw [this, one_mod hp]
  refine ⟨x ^ u, fun h => hpx (hp.dvd_pow h), ?_, ?_⟩
  · intro h
    apply hx
    rw [← Nat.pow_mul, Nat.mul_comm, Nat.pow_mul] at h
    have h1 : (x ^ ((p - 1) / r)) ^ r % p = 1 := by
      rw [← Nat.pow_mul, Nat.div_mul_cancel hd]
      exact hF _ (Nat.dvd_refl _)
    have h2 := pow_gcd (h.trans (one_mod hp).symm) (h1.trans (one_mod hp).symm)
    have h3 : Nat.gcd u r = 1 := by
      have := hr.coprime hu
      rw [Nat.gcd_comm]; exact this
    rw [h3, Nat.pow_one, one_mod hp] at h2
    exact h2
  · intro q hq hqd hqr
    rw [← Nat.pow_mul]
    have hqu : q ∣ u := by
      rw [hs] at hqd
      rcases hq.dvd_mul hqd with h | h
      · exact absurd (hq.eq_of_dvd hr (hq.dvd_pow h)) hqr
      · exact h
    exact hF _ (div_mul_dvd hqd hqu)

theorem some_root {p : Nat} (hp : Pr p) (l : List Nat) (hl : ∀ q ∈ l, Pr q ∧ q ∣ p - 1) :
    ∃ g, ¬ p ∣ g ∧ (∀ q ∈ l, g ^ ((p - 1) / q) % p ≠ 1) ∧ ∀ q, Pr q → q ∣ p - 1 → q ∉ l → g ^ ((p - 1) / q) % p = 1 := by
  induction l with
  | nil => exact ⟨1, by intro h; have := Nat.le_of_dvd (by omega) h; have := hp.1; omega, by intro q hq; exact absurd hq (List.not_mem_nil), by intro q _ _ _; rw [Nat.one_pow, one_mod hp]⟩
  | cons r t ih =>
    obtain ⟨g, h1, h2, h3⟩ := ih (fun q hq => hl q (List.mem_cons_of_mem _ hq))
    by_cases hr : r ∈ t
    · refine ⟨g, h1, ?_, ?_⟩
      · intro q hq
        rcases List.mem_cons.1 hq with rfl | hq
        · exact h2 _ hr
        · exact h2 _ hq
      · intro q a b c
        exact h3 q a b (fun h => c (List.mem_cons_of_mem _ h))
    · obtain ⟨hrp, hrd⟩ := hl r List.mem_cons_self
      obtain ⟨y, y1, y2, y3⟩ := one_factor hp hrp hrd
      have hmul : ∀ k, (g * y) ^ k % p = (g ^ k % p) * (y ^ k % p) % p := by
        intro k; rw [Nat.mul_pow, Nat.mul_mod]
      refine ⟨g * y, ?_, ?_, ?_⟩
      · intro h
        rcases hp.dvd_mul h with h | h
        · exact h1 h
        · exact y1 h
      · intro q hq
        rw [hmul]
        rcases List.mem_cons.1 hq with hqr | hq
        · subst hqr; rw [h3 q hrp hrd hr, Nat.one_mul, Nat.mod_mod]; exact y2
        · have hq' := hl q (List.mem_cons_of_mem _ hq)
          have hne : q ≠ r := fun e => hr (e ▸ hq)
          rw [y3 q hq'.1 hq'.2 hne, Nat.mul_one, Nat.mod_mod]; exact h2 q hq
      · intro q a b c
        rw [hmul, h3 q a b (fun h => c (List.mem_cons_of_mem _ h)), y3 q a b (by rintro rfl; exact c List.mem_cons_self), Nat.mul_one, one_mod hp]

/-- no power with (p - 1) / q, q a prime factor, is 1 -/
def Gen (p g : Nat) : Prop := ∀ q ∈ facs (p - 1), g ^ ((p - 1) / q) % p ≠ 1

theorem gen_exists {p : Nat} (hp : Pr p) : ∃ g, 1 ≤ g ∧ g < p ∧ Gen p g := by
  have hp2 := hp.1
  have hf := facs_of (n := p - 1) (by omega)
  obtain ⟨g, h1, h2, _⟩ := some_root hp (facs (p - 1)) (fun q hq => ⟨hf.2.1 q hq, by have := dvd_mulAll hq; rw [hf.1] at this; exact this⟩)
  refine ⟨g % p, ?_, Nat.mod_lt _ (by omega), ?_⟩
  · rcases Nat.eq_zero_or_pos (g % p) with h | h
    · exact absurd (Nat.dvd_of_mod_eq_zero h) h1
    · exact h
  · intro q hq
    rw [← Nat.pow_mod]
    exact h2 q hq
end Go.Proofs.Ytnhjeelcgfobnaa.Num
namespace Go.Proofs.Ytnhjeelcgfobnaa.Num

/-- one step of the search for the order -/
def ordStep (p a q n : Nat) : Nat := if a ^ (n / q) % p = 1 then n / q else n
def ordL (p a : Nat) : List Nat → Nat → Nat
  | [], n => n
  | q :: t, n => ordL p a t (ordStep p a q n)
theorem ordL_snoc (p a : Nat) (l : List Nat) (q n : Nat) : ordL p a (l ++ [q]) n = ordStep p a q (ordL p a l n) := by
  induction l generalizing n with
  | nil => rfl
  | cons x t ih => exact ih _
noncomputable def ordN (p a : Nat) : Nat := ordL p a (facs (p - 1)) (p - 1)

/-- n is the order of a -/
structure IsOrd (p a n : Nat) : Prop where
  pos : 1 ≤ n
  one : a ^ n % p = 1
  min : ∀ q, Pr q → q ∣ n → a ^ (n / q) % p ≠ 1

theorem div_step {n m q : Nat} (hd : n ∣ m) (hq : q ∣ n) (h0 : 1 ≤ n) : n / q ∣ m / q := by
  obtain ⟨c, hc⟩ := hd
  obtain ⟨d, hdd⟩ := hq
  have hq0 : 0 < q := by rcases Nat.eq_zero_or_pos q with rfl | h; omega; exact h
  refine ⟨c, ?_⟩
  rw [hc, hdd, Nat.mul_assoc, Nat.mul_div_cancel_left _ hq0, Nat.mul_div_cancel_left _ hq0]

theorem IsOrd.dvd {p a n m : Nat} (hp : Pr p) (h : IsOrd p a n) (hm : a ^ m % p = 1) : n ∣ m := by
  have h1 := pow_gcd (hm.trans (one_mod hp).symm) (h.one.trans (one_mod hp).symm)
  rw [one_mod hp] at h1
  by_cases he : Nat.gcd m n = n
  · exact he ▸ Nat.gcd_dvd_left m n
  · exfalso
    obtain ⟨c, hc⟩ := Nat.gcd_dvd_right m n
    have hpos := h.pos
    have hc2 : 2 ≤ c := by
      rcases Nat.lt_or_ge c 2 with h2 | h2
      · exfalso
        have : c = 0 ∨ c = 1 := by omega
        rcases this with rfl | rfl
        · omega
        · rw [Nat.mul_one] at hc; exact he hc.symm
      · exact h2
    obtain ⟨q, hq, hqc⟩ := exists_pr hc2
    have hqn : q ∣ n := by rw [hc]; exact Nat.dvd_trans hqc ⟨Nat.gcd m n, by rw [Nat.mul_comm]⟩
    apply h.min q hq hqn
    have hdv : Nat.gcd m n ∣ n / q := by
      obtain ⟨d, hd⟩ := hqc
      refine ⟨d, ?_⟩
      have : n = q * (Nat.gcd m n * d) := by rw [hd] at hc; rw [← Nat.mul_assoc, Nat.mul_comm q, Nat.mul_assoc]; exact hc
      exact Nat.div_eq_of_eq_mul_right (by have := hq.1; omega) this
    rw [pow_dvd_one (h1.trans (one_mod hp).symm) hdv, one_mod hp]
theorem IsOrd.unique {p a n m : Nat} (hp : Pr p) (h : IsOrd p a n) (h' : IsOrd p a m) : n = m :=
  Nat.dvd_antisymm (h.dvd hp h'.one) (h'.dvd hp h.one)

theorem pow_count {q k : Nat} (hq : Pr q) {l : List Nat} (hl : ∀ x ∈ l, Pr x) (h : q ^ k ∣ mulAll l) : k ≤ l.count q := by
  induction l generalizing k with
  | nil =>
    rcases Nat.eq_zero_or_pos k with rfl | h0
    · exact Nat.zero_le _
    · exfalso
      have h1 : q ∣ mulAll [] := Nat.dvd_trans (by obtain ⟨j, rfl⟩ : ∃ j, k = j + 1 := ⟨k - 1, by omega⟩; exact ⟨q ^ j, by rw [Nat.pow_succ, Nat.mul_comm]⟩) h
      have := Nat.le_of_dvd (by decide) h1
      have := hq.1
      have e : mulAll [] = 1 := rfl
      omega
  | cons x t ih =>
    have ht := fun y hy => hl y (List.mem_cons_of_mem x hy)
    have h' : q ^ k ∣ x * mulAll t := h
    by_cases hx : x = q
    · subst hx
      rw [List.count_cons_self]
      rcases Nat.eq_zero_or_pos k with rfl | h0
      · omega
      · obtain ⟨j, rfl⟩ : ∃ j, k = j + 1 := ⟨k - 1, by omega⟩
        rw [Nat.pow_succ, Nat.mul_comm] at h'
        have := ih ht (Nat.dvd_of_mul_dvd_mul_left (by have := hq.1; omega) h')
        omega
    · rw [List.count_cons_of_ne hx]
      have hcop : Nat.Coprime (q ^ k) x := by
        have := hq.coprime (a := x) (fun hd => hx (hq.eq_of_dvd (hl x List.mem_cons_self) hd).symm)
        have := Nat.Coprime.pow k 1 this
        rwa [Nat.pow_one] at this
      exact ih ht (hcop.dvd_of_dvd_mul_left h')

/-- what the search keeps -/
structure OS (p a N : Nat) (rest : List Nat) (n : Nat) : Prop where
  prs : ∀ x ∈ rest, Pr x
  pos : 1 ≤ n
  dvN : n ∣ N
  one : a ^ n % p = 1
  rdv : mulAll rest ∣ n
  fin : ∀ q, Pr q → q ∣ n → a ^ (n / q) % p ≠ 1 ∨ ∀ k, q ^ k ∣ n → k ≤ rest.count q

theorem OS.step {p a N r n : Nat} {t : List Nat} (hp : Pr p) (h : OS p a N (r :: t) n) : OS p a N t (ordStep p a r n) := by
  have hr : Pr r := h.prs r List.mem_cons_self
  have hr2 := hr.1
  have ht := fun y hy => h.prs y (List.mem_cons_of_mem r hy)
  have hrd : r * mulAll t ∣ n := h.rdv
  have hrn : r ∣ n := Nat.dvd_trans ⟨_, rfl⟩ hrd
  have e : r * (n / r) = n := Nat.mul_div_cancel' hrn
  have hpos := h.pos
  unfold ordStep
  by_cases hs : a ^ (n / r) % p = 1
  · rw [if_pos hs]
    have hdn : n / r ∣ n := ⟨r, by rw [Nat.mul_comm]; exact e.symm⟩
    refine ⟨ht, ?_, Nat.dvd_trans hdn h.dvN, hs, ?_, ?_⟩
    · rcases Nat.eq_zero_or_pos (n / r) with h0 | h0
      · rw [h0] at e; omega
      · exact h0
    · rw [← e] at hrd
      exact Nat.dvd_of_mul_dvd_mul_left (by omega) hrd
    · intro q hq hqn
      rcases h.fin q hq (Nat.dvd_trans hqn hdn) with h1 | h1
      · left
        intro h2
        apply h1
        have hd : n / r / q ∣ n / q := div_step hdn hqn (by
          rcases Nat.eq_zero_or_pos (n / r) with h0 | h0
          · rw [h0] at e; omega
          · exact h0)
        rw [pow_dvd_one (h2.trans (one_mod hp).symm) hd, one_mod hp]
      · by_cases hqr : q = r
        · subst hqr
          right
          intro k hk
          have := h1 (k + 1) (by rw [Nat.pow_succ, Nat.mul_comm]; exact e ▸ Nat.mul_dvd_mul (Nat.dvd_refl q) hk)
          rw [List.count_cons_self] at this
          omega
        · right
          intro k hk
          have := h1 k (Nat.dvd_trans hk hdn)
          rwa [List.count_cons_of_ne (fun e => hqr e.symm)] at this
  · rw [if_neg hs]
    refine ⟨ht, hpos, h.dvN, h.one, Nat.dvd_trans ⟨r, by rw [Nat.mul_comm]⟩ hrd, ?_⟩
    intro q hq hqn
    by_cases hqr : q = r
    · subst hqr; exact Or.inl hs
    · rcases h.fin q hq hqn with h1 | h1
      · exact Or.inl h1
      · right
        intro k hk
        have := h1 k hk
        rwa [List.count_cons_of_ne (fun e => hqr e.symm)] at this

theorem OS.all {p a N n : Nat} {l : List Nat} (hp : Pr p) (h : OS p a N l n) : OS p a N [] (ordL p a l n) := by
  induction l generalizing n with
  | nil => exact h
  | cons r t ih => exact ih (h.step hp)

theorem ordN_is {p a : Nat} (hp : Pr p) (ha : ¬ p ∣ a) : IsOrd p a (ordN p a) ∧ ordN p a ∣ p - 1 := by
  have hp2 := hp.1
  have hf := facs_of (n := p - 1) (by omega)
  have h0 : OS p a (p - 1) (facs (p - 1)) (p - 1) := by
    refine ⟨hf.2.1, by omega, Nat.dvd_refl _, fermat1 hp ha, by rw [hf.1]; exact Nat.dvd_refl _, ?_⟩
    intro q hq hqn
    right
    intro k hk
    exact pow_count hq hf.2.1 (by rw [hf.1]; exact hk)
  have h1 := h0.all hp
  refine ⟨⟨h1.pos, h1.one, ?_⟩, h1.dvN⟩
  intro q hq hqn
  rcases h1.fin q hq hqn with h2 | h2
  · exact h2
  · have := h2 1 (by rw [Nat.pow_one]; exact hqn)
    simp at this

theorem ordN_eq {p a n : Nat} (hp : Pr p) (ha : ¬ p ∣ a) (h : IsOrd p a n) : ordN p a = n := (ordN_is hp ha).1.unique hp h

theorem gen_ord {p g : Nat} (hp : Pr p) (hg : ¬ p ∣ g) : Gen p g ↔ ordN p g = p - 1 := by
  have hp2 := hp.1
  have hf := facs_of (n := p - 1) (by omega)
  constructor
  · intro h
    refine ordN_eq hp hg ⟨by omega, fermat1 hp hg, ?_⟩
    intro q hq hqn
    exact h q (hq.mem_of_dvd hf.2.1 (by rw [hf.1]; exact hqn))
  · intro h q hq
    have h1 := (ordN_is hp hg).1
    rw [h] at h1
    exact h1.min q (hf.2.1 q hq) (by have := dvd_mulAll hq; rw [hf.1] at this; exact this)

/-- the least number for which something holds -/
theorem least {P : Nat → Prop} (h : ∃ n, P n) : ∃ n, P n ∧ ∀ m, P m → n ≤ m := by
  obtain ⟨n, hn⟩ := h
  induction n using Nat.strongRecOn with
  | ind n ih =>
    by_cases hc : ∃ m, P m ∧ m < n
    · obtain ⟨m, h1, h2⟩ := hc
      exact ih m h2 h1
    · refine ⟨n, hn, fun m hm => ?_⟩
      apply Classical.byContradiction
      intro hc'
      exact hc ⟨m, hm, by omega⟩

/-- g is the generator of p -/
def IsGen (p g : Nat) : Prop := 1 ≤ g ∧ g < p ∧ Gen p g ∧ ∀ m, 1 ≤ m → Gen p m → g ≤ m
theorem isGen_unique {p g g' : Nat} (h : IsGen p g) (h' : IsGen p g') : g = g' := by
  have a := h.2.2.2 g' h'.1 h'.2.2.1
  have b := h'.2.2.2 g h.1 h.2.2.1
  omega
theorem isGen_exists {p : Nat} (hp : Pr p) : ∃ g, IsGen p g := by
  obtain ⟨g, h1, h2, h3⟩ := gen_exists hp
  obtain ⟨m, ⟨a, b⟩, c⟩ := least (P := fun n => 1 ≤ n ∧ Gen p n) ⟨g, h1, h3⟩
  exact ⟨m, a, by have := c g ⟨h1, h3⟩; omega, b, fun n h4 h5 => c n ⟨h4, h5⟩⟩
noncomputable def genN (p : Nat) : Nat := @dite _ (∃ g, IsGen p g) (Classical.propDecidable _) (fun h => Classical.choose h) (fun _ => 0)
theorem genN_is {p : Nat} (hp : Pr p) : IsGen p (genN p) := by
  have h1 := isGen_exists hp
  unfold genN
  rw [dif_pos h1]
  exact Classical.choose_spec h1
theorem genN_eq {p g : Nat} (hp : Pr p) (h : IsGen p g) : genN p = g := isGen_unique (genN_is hp) h

/-- the root for n -/
noncomputable def rootN (p n : Nat) : Nat := genN p ^ ((p - 1) / n) % p
theorem rootN_ord {p n : Nat} (hp : Pr p) (hn : n ∣ p - 1) : IsOrd p (rootN p n) n := by
  have hp2 := hp.1
  have hg := genN_is hp
  have hpg : ¬ p ∣ genN p := hp.not_dvd_lt hg.1 hg.2.1
  have hn1 : 1 ≤ n := by rcases Nat.eq_zero_or_pos n with rfl | h; have := Nat.eq_zero_of_zero_dvd hn; omega; exact h
  have ho : IsOrd p (genN p) (p - 1) := by
    have := (ordN_is hp hpg).1
    rwa [(gen_ord hp hpg).1 hg.2.2.1] at this
  have hpw : ∀ k, rootN p n ^ k % p = genN p ^ ((p - 1) / n * k) % p := by
    intro k; unfold rootN; rw [← Nat.pow_mod, ← Nat.pow_mul]
  refine ⟨hn1, ?_, ?_⟩
  · rw [hpw, Nat.div_mul_cancel hn]; exact ho.one
  · intro q hq hqn
    rw [hpw]
    have : (p - 1) / n * (n / q) = (p - 1) / q := by
      obtain ⟨c, hc⟩ := hqn
      obtain ⟨d, hd⟩ := hn
      have hq0 : 0 < q := by have := hq.1; omega
      rw [hd, Nat.mul_div_cancel_left _ (by omega), hc, Nat.mul_div_cancel_left _ hq0, Nat.mul_assoc, Nat.mul_div_cancel_left _ hq0, Nat.mul_comm]
    rw [this]
    exact ho.min q hq (Nat.dvd_trans hqn hn)
end Go.Proofs.Ytnhjeelcgfobnaa.Num
