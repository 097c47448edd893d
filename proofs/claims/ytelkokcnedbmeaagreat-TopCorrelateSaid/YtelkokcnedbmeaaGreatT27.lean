/-
  Parts of the proof of TopCorrelate: NumH NumI RingG RingH RingI.
-/
import Derived.Test.YtelkokcnedbmeaaGreatT26
import Derived.WalkMore
import Derived.Deep.RegionHeld3
import Derived.Test.YtelkokcnedbmeaaGreatT01
namespace Go.Proofs.YtelkokcnedbmeaaGreat.Num
set_option maxRecDepth 20000
def ev : List Int → Int → Int
 | [], _ => 0
 | c :: t, x => c + x * ev t x
def addS (r : Int) : List Int → List Int → List Int
 | [], _ => []
 | t, [] => t
 | a :: t, b :: u => (a + r * b) :: addS r t u
theorem addS_ev (r : Int) (t u : List Int) (h : u.length ≤ t.length) (x : Int) : ev (addS r t u) x = ev t x + r * ev u x := by
 induction t generalizing u with
 | nil =>
  have : u = [] := by cases u with
   | nil => rfl
   | cons _ _ => simp at h
  subst this
  show (0 : Int) = 0 + r * 0
  omega
 | cons a t ih =>
  cases u with
  | nil => show ev (a :: t) x = ev (a :: t) x + r * 0; omega
  | cons b u =>
   show (a + r * b) + x * ev (addS r t u) x = (a + x * ev t x) + r * (b + x * ev u x)
   rw [ih u (by simpa using h)]
   grind
theorem addS_len (r : Int) (t u : List Int) : (addS r t u).length = t.length := by
 induction t generalizing u with
 | nil => cases u <;> rfl
 | cons a t ih =>
  cases u with
  | nil => rfl
  | cons b u => show (addS r t u).length + 1 = t.length + 1; rw [ih]
theorem addS_last (r : Int) (t u : List Int) (h : u.length < t.length) : (addS r t u).getLast? = t.getLast? := by
 induction t generalizing u with
 | nil => simp at h
 | cons a t ih =>
  cases u with
  | nil => rfl
  | cons b u =>
   have h' : u.length < t.length := by simpa using h
   show ((a + r * b) :: addS r t u).getLast? = (a :: t).getLast?
   have e := ih u h'
   cases ht : t with
   | nil => rw [ht] at h'; simp at h'
   | cons c t' =>
    rw [ht] at e
    cases hs : addS r (c :: t') u with
    | nil => have := addS_len r (c :: t') u; rw [hs] at this; simp at this
    | cons d s =>
     rw [hs] at e
     rw [List.getLast?_cons_cons, List.getLast?_cons_cons]
     exact e
def quo (r : Int) : List Int → List Int
 | [] => []
 | _ :: t => addS r t (quo r t)
theorem quo_len (r : Int) (f : List Int) : (quo r f).length = f.length - 1 := by
 cases f with
 | nil => rfl
 | cons c t => show (addS r t (quo r t)).length = _; rw [addS_len]; simp
theorem quo_ev (r : Int) (f : List Int) (x : Int) : ev f x - ev f r = (x - r) * ev (quo r f) x := by
 induction f with
 | nil => show (0 : Int) - 0 = (x - r) * 0; omega
 | cons c t ih =>
  show (c + x * ev t x) - (c + r * ev t r) = (x - r) * ev (addS r t (quo r t)) x
  rw [addS_ev r t (quo r t) (by rw [quo_len]; omega)]
  grind
theorem quo_last (r : Int) (f : List Int) (h : 2 ≤ f.length) : (quo r f).getLast? = f.getLast? := by
 cases f with
 | nil => simp at h
 | cons c t =>
  show (addS r t (quo r t)).getLast? = _
  have h1 : 1 ≤ t.length := by simpa using h
  rw [addS_last r t (quo r t) (by rw [quo_len]; omega)]
  cases t with
  | nil => simp at h1
  | cons d t => rw [List.getLast?_cons_cons]
theorem nat_dvd {p : Nat} {a : Int} : (p : Int) ∣ a ↔ p ∣ a.natAbs := by
 rw [← Int.natCast_dvd_natCast, Int.dvd_natAbs]
theorem Pr.int_dvd_mul {p : Nat} (hp : Pr p) {a b : Int} (h : (p : Int) ∣ a * b) : (p : Int) ∣ a ∨ (p : Int) ∣ b := by
 have h1 : p ∣ (a * b).natAbs := nat_dvd.1 h
 rw [Int.natAbs_mul] at h1
 rcases hp.dvd_mul h1 with h2 | h2
 ·exact Or.inl (nat_dvd.2 h2)
 ·exact Or.inr (nat_dvd.2 h2)
theorem roots_le {p : Nat} (hp : Pr p) : ∀ (d : Nat) (f : List Int) (c : Int), f.length = d + 1 → f.getLast? = some c → ¬ (p : Int) ∣ c →
 ∀ S : List Int, S.Pairwise (fun x y => ¬ (p : Int) ∣ y - x) → (∀ x ∈ S, (p : Int) ∣ ev f x) → S.length ≤ d := by
 intro d
 induction d with
 | zero =>
  intro f c hl hlast hc S _ hS
  cases S with
  | nil => exact Nat.le_refl 0
  | cons r S =>
   exfalso
   obtain ⟨a, rfl⟩ := List.length_eq_one_iff.1 hl
   have h1 := hS r List.mem_cons_self
   have h2 : ev [a] r = a := by show a + r * 0 = a; omega
   rw [h2] at h1
   injection hlast with e
   exact hc (e ▸ h1)
 | succ d ih =>
  intro f c hl hlast hc S hpw hS
  cases S with
  | nil => exact Nat.zero_le _
  | cons r S =>
   have hpw' := List.pairwise_cons.1 hpw
   have hr := hS r List.mem_cons_self
   have := ih (quo r f) c (by rw [quo_len, hl]; rfl) (by rw [quo_last r f (by omega)]; exact hlast) hc S hpw'.2 (by
    intro x hx
    have hfx := hS x (List.mem_cons_of_mem _ hx)
    have h1 : (p : Int) ∣ (x - r) * ev (quo r f) x := by rw [← quo_ev]; exact Int.dvd_sub hfx hr
    rcases hp.int_dvd_mul h1 with h2 | h2
    ·exact absurd h2 (hpw'.1 x hx)
    ·exact h2)
   show S.length + 1 ≤ d + 1
   omega
def mono : Nat → List Int
 | 0 => [1]
 | d + 1 => 0 :: mono d
theorem mono_ev (d : Nat) (x : Int) : ev (mono d) x = x ^ d := by
 induction d with
 | zero => rw [Int.pow_zero]; show 1 + x * 0 = 1; omega
 | succ d ih => show 0 + x * ev (mono d) x = x ^ (d + 1); rw [ih, Int.pow_succ, Int.mul_comm]; omega
theorem mono_len (d : Nat) : (mono d).length = d + 1 := by
 induction d with
 | zero => rfl
 | succ d ih => show (mono d).length + 1 = _; rw [ih]
theorem mono_last (d : Nat) : (mono d).getLast? = some 1 := by
 induction d with
 | zero => rfl
 | succ d ih =>
  show (0 :: mono d).getLast? = _
  cases h : mono d with
  | nil => have := mono_len d; rw [h] at this; simp at this
  | cons a t => rw [List.getLast?_cons_cons, ← h]; exact ih
def pol : Nat → List Int
 | 0 => []
 | d + 1 => (-1) :: mono d
theorem pol_ev (d : Nat) (x : Int) : ev (pol (d + 1)) x = x ^ (d + 1) - 1 := by
 show -1 + x * ev (mono d) x = _
 rw [mono_ev, Int.pow_succ, Int.mul_comm]; omega
theorem pol_len (d : Nat) : (pol (d + 1)).length = d + 1 + 1 := by show (mono d).length + 1 = _; rw [mono_len]
theorem pol_last (d : Nat) : (pol (d + 1)).getLast? = some 1 := by
 show ((-1) :: mono d).getLast? = _
 cases h : mono d with
 | nil => have := mono_len d; rw [h] at this; simp at this
 | cons a t => rw [List.getLast?_cons_cons, ← h]; exact mono_last d
theorem range_apart {p : Nat} (n : Nat) (h : n < p) : ((List.range n).map (fun i => ((i + 1 : Nat) : Int))).Pairwise (fun x y => ¬ (p : Int) ∣ y - x) := by
 rw [List.pairwise_map]
 have := List.pairwise_lt_range (n := n)
 refine List.Pairwise.imp_of_mem ?_ this
 intro a b ha hb hab hd
 have hb' := List.mem_range.1 hb
 have h1 : ((b + 1 : Nat) : Int) - ((a + 1 : Nat) : Int) = ((b - a : Nat) : Int) := by omega
 rw [h1, Int.natCast_dvd_natCast] at hd
 have := Nat.le_of_dvd (by omega) hd
 omega
theorem exists_not_one {p d : Nat} (hp : Pr p) (hd : 1 ≤ d) (hlt : d < p - 1) : ∃ x, 1 ≤ x ∧ x < p ∧ x ^ d % p ≠ 1 := by
 apply Classical.byContradiction
 intro hc
 have hall : ∀ x, 1 ≤ x → x < p → x ^ d % p = 1 := by
  intro x h1 h2
  apply Classical.byContradiction
  intro h
  exact hc ⟨x, h1, h2, h⟩
 obtain ⟨e, rfl⟩ : ∃ e, d = e + 1 := ⟨d - 1, by omega⟩
 have := roots_le hp (e + 1) (pol (e + 1)) 1 (pol_len e) (pol_last e) (by
  intro h
  have h1 : p ∣ 1 := by have := nat_dvd.1 h; simpa using this
  have := Nat.le_of_dvd (by omega) h1
  have := hp.1
  omega) ((List.range (p - 1)).map (fun i => ((i + 1 : Nat) : Int))) (range_apart (p - 1) (by have := hp.1; omega)) (by
  intro x hx
  obtain ⟨i, hi, rfl⟩ := List.mem_map.1 hx
  have hi' := List.mem_range.1 hi
  rw [pol_ev]
  have h1 := hall (i + 1) (by omega) (by omega)
  have h2 : p ∣ (i + 1) ^ (e + 1) - 1 := dvd_sub_of_mod (h1.trans (Nat.mod_eq_of_lt (by have := hp.1; omega)).symm)
  have h3 : (((i + 1) ^ (e + 1) - 1 : Nat) : Int) = ((i + 1 : Nat) : Int) ^ (e + 1) - 1 := by
   rw [← Int.natCast_pow]
   have : 1 ≤ (i + 1) ^ (e + 1) := Nat.pow_pos (by omega)
   omega
  rw [← h3]
  exact Int.natCast_dvd_natCast.2 h2)
 simp at this
 omega
theorem split_pr {n r : Nat} (hr : Pr r) (hn : 1 ≤ n) : ∃ e u, n = r ^ e * u ∧ ¬ r ∣ u := by
 induction n using Nat.strongRecOn with
 | ind n ih =>
  by_cases hd : r ∣ n
  ·obtain ⟨c, hc⟩ := hd
   have h2 := hr.1
   have hc0 : 1 ≤ c := by rcases Nat.eq_zero_or_pos c with rfl | h; omega; exact h
   have hlt : c < n := by have := Nat.mul_le_mul h2 (Nat.le_refl c); omega
   obtain ⟨e, u, h1, h3⟩ := ih c hlt hc0
   exact ⟨e + 1, u, by rw [hc, h1, Nat.pow_succ]; grind, h3⟩
  ·exact ⟨0, n, by rw [Nat.pow_zero, Nat.one_mul], hd⟩
theorem one_mod {p : Nat} (hp : Pr p) : 1 % p = 1 := Nat.mod_eq_of_lt (by have := hp.1; omega)
theorem not_dvd_of {p x : Nat} (hp : Pr p) (h1 : 1 ≤ x) (h2 : x < p) : ¬ p ∣ x := hp.not_dvd_lt h1 h2
theorem div_mul_dvd {n q u : Nat} (hq : q ∣ n) (hu : q ∣ u) : n ∣ u * (n / q) := by
 obtain ⟨c, hc⟩ := hu
 obtain ⟨m, hm⟩ := hq
 refine ⟨c, ?_⟩
 rcases Nat.eq_zero_or_pos q with h0 | h0
 ·subst h0; rw [hc, hm]; simp
 ·rw [hm, Nat.mul_div_cancel_left _ h0, hc]; grind
theorem one_factor {p r : Nat} (hp : Pr p) (hr : Pr r) (hd : r ∣ p - 1) : ∃ y, ¬ p ∣ y ∧ y ^ ((p - 1) / r) % p ≠ 1 ∧ ∀ q, Pr q → q ∣ p - 1 → q ≠ r → y ^ ((p - 1) / q) % p = 1 := by
 have hp2 := hp.1
 have hr2 := hr.1
 have hle := Nat.le_of_dvd (by have := hp.1; by_cases h : p = 2; subst h; have := Nat.le_of_dvd (by omega) hd; omega; omega) hd
 obtain ⟨N, hN⟩ : ∃ N, N = p - 1 := ⟨_, rfl⟩
 have hdiv : 1 ≤ (p - 1) / r := Nat.div_pos hle (by omega)
 have hlt : (p - 1) / r < p - 1 := Nat.div_lt_self (by omega) (by omega)
 obtain ⟨x, hx1, hx2, hx⟩ := exists_not_one hp hdiv hlt
 have hpx := not_dvd_of hp hx1 hx2
 obtain ⟨e, u, hs, hu⟩ := split_pr (n := p - 1) hr (by omega)
 have hF : ∀ k, p - 1 ∣ k → x ^ k % p = 1 := by
  intro k hk
  have := pow_dvd_one ((fermat1 hp hpx).trans (one_mod hp).symm) hk
  rw [this, one_mod hp]
 refine ⟨x ^ u, fun h => hpx (hp.dvd_pow h), ?_, ?_⟩
 ·intro h
  apply hx
  rw [← Nat.pow_mul, Nat.mul_comm, Nat.pow_mul] at h
  have h1 : (x ^ ((p - 1) / r)) ^ r % p = 1 := by
   rw [← Nat.pow_mul, Nat.div_mul_cancel hd]
   exact hF _ (Nat.dvd_refl _)
  have h2 := pow_gcd (h.trans (one_mod hp).symm) (h1.trans (one_mod hp).symm)
  have h3 : Nat.gcd u r = 1 := by
   have := hr.coprime hu
   rw [Nat.gcd_comm]; exact this
  rw [h3, Nat.pow_one, one_mod hp] at h2
  exact h2
 ·intro q hq hqd hqr
  rw [← Nat.pow_mul]
  have hqu : q ∣ u := by
   rw [hs] at hqd
   rcases hq.dvd_mul hqd with h | h
   ·exact absurd (hq.eq_of_dvd hr (hq.dvd_pow h)) hqr
   ·exact h
  exact hF _ (div_mul_dvd hqd hqu)
theorem some_root {p : Nat} (hp : Pr p) (l : List Nat) (hl : ∀ q ∈ l, Pr q ∧ q ∣ p - 1) :
 ∃ g, ¬ p ∣ g ∧ (∀ q ∈ l, g ^ ((p - 1) / q) % p ≠ 1) ∧ ∀ q, Pr q → q ∣ p - 1 → q ∉ l → g ^ ((p - 1) / q) % p = 1 := by
 induction l with
 | nil => exact ⟨1, by intro h; have := Nat.le_of_dvd (by omega) h; have := hp.1; omega, by intro q hq; exact absurd hq (List.not_mem_nil), by intro q _ _ _; rw [Nat.one_pow, one_mod hp]⟩
 | cons r t ih =>
  obtain ⟨g, h1, h2, h3⟩ := ih (fun q hq => hl q (List.mem_cons_of_mem _ hq))
  by_cases hr : r ∈ t
  ·refine ⟨g, h1, ?_, ?_⟩
   ·intro q hq
    rcases List.mem_cons.1 hq with rfl | hq
    ·exact h2 _ hr
    ·exact h2 _ hq
   ·intro q a b c
    exact h3 q a b (fun h => c (List.mem_cons_of_mem _ h))
  ·obtain ⟨hrp, hrd⟩ := hl r List.mem_cons_self
   obtain ⟨y, y1, y2, y3⟩ := one_factor hp hrp hrd
   have hmul : ∀ k, (g * y) ^ k % p = (g ^ k % p) * (y ^ k % p) % p := by
    intro k; rw [Nat.mul_pow, Nat.mul_mod]
   refine ⟨g * y, ?_, ?_, ?_⟩
   ·intro h
    rcases hp.dvd_mul h with h | h
    ·exact h1 h
    ·exact y1 h
   ·intro q hq
    rw [hmul]
    rcases List.mem_cons.1 hq with hqr | hq
    ·subst hqr; rw [h3 q hrp hrd hr, Nat.one_mul, Nat.mod_mod]; exact y2
    ·have hq' := hl q (List.mem_cons_of_mem _ hq)
     have hne : q ≠ r := fun e => hr (e ▸ hq)
     rw [y3 q hq'.1 hq'.2 hne, Nat.mul_one, Nat.mod_mod]; exact h2 q hq
   ·intro q a b c
    rw [hmul, h3 q a b (fun h => c (List.mem_cons_of_mem _ h)), y3 q a b (by rintro rfl; exact c List.mem_cons_self), Nat.mul_one, one_mod hp]
def Gen (p g : Nat) : Prop := ∀ q ∈ facs (p - 1), g ^ ((p - 1) / q) % p ≠ 1
theorem gen_exists {p : Nat} (hp : Pr p) : ∃ g, 1 ≤ g ∧ g < p ∧ Gen p g := by
 have hp2 := hp.1
 have hf := facs_of (n := p - 1) (by omega)
 obtain ⟨g, h1, h2, _⟩ := some_root hp (facs (p - 1)) (fun q hq => ⟨hf.2.1 q hq, by have := dvd_mulAll hq; rw [hf.1] at this; exact this⟩)
 refine ⟨g % p, ?_, Nat.mod_lt _ (by omega), ?_⟩
 ·rcases Nat.eq_zero_or_pos (g % p) with h | h
  ·exact absurd (Nat.dvd_of_mod_eq_zero h) h1
  ·exact h
 ·intro q hq
  rw [← Nat.pow_mod]
  exact h2 q hq
end Go.Proofs.YtelkokcnedbmeaaGreat.Num
namespace Go.Proofs.YtelkokcnedbmeaaGreat.Num
set_option maxRecDepth 20000
def ordStep (p a q n : Nat) : Nat := if a ^ (n / q) % p = 1 then n / q else n
def ordL (p a : Nat) : List Nat → Nat → Nat
 | [], n => n
 | q :: t, n => ordL p a t (ordStep p a q n)
noncomputable def ordN (p a : Nat) : Nat := ordL p a (facs (p - 1)) (p - 1)
structure IsOrd (p a n : Nat) : Prop where
 pos : 1 ≤ n
 one : a ^ n % p = 1
 min : ∀ q, Pr q → q ∣ n → a ^ (n / q) % p ≠ 1
theorem div_step {n m q : Nat} (hd : n ∣ m) (hq : q ∣ n) (h0 : 1 ≤ n) : n / q ∣ m / q := by
 obtain ⟨c, hc⟩ := hd
 obtain ⟨d, hdd⟩ := hq
 have hq0 : 0 < q := by rcases Nat.eq_zero_or_pos q with rfl | h; omega; exact h
 refine ⟨c, ?_⟩
 rw [hc, hdd, Nat.mul_assoc, Nat.mul_div_cancel_left _ hq0, Nat.mul_div_cancel_left _ hq0]
theorem IsOrd.dvd {p a n m : Nat} (hp : Pr p) (h : IsOrd p a n) (hm : a ^ m % p = 1) : n ∣ m := by
 have h1 := pow_gcd (hm.trans (one_mod hp).symm) (h.one.trans (one_mod hp).symm)
 rw [one_mod hp] at h1
 by_cases he : Nat.gcd m n = n
 ·exact he ▸ Nat.gcd_dvd_left m n
 ·exfalso
  obtain ⟨c, hc⟩ := Nat.gcd_dvd_right m n
  have hpos := h.pos
  have hc2 : 2 ≤ c := by
   rcases Nat.lt_or_ge c 2 with h2 | h2
   ·exfalso
    have : c = 0 ∨ c = 1 := by omega
    rcases this with rfl | rfl
    ·omega
    ·rw [Nat.mul_one] at hc; exact he hc.symm
   ·exact h2
  obtain ⟨q, hq, hqc⟩ := exists_pr hc2
  have hqn : q ∣ n := by rw [hc]; exact Nat.dvd_trans hqc ⟨Nat.gcd m n, by rw [Nat.mul_comm]⟩
  apply h.min q hq hqn
  have hdv : Nat.gcd m n ∣ n / q := by
   obtain ⟨d, hd⟩ := hqc
   refine ⟨d, ?_⟩
   have : n = q * (Nat.gcd m n * d) := by rw [hd] at hc; rw [← Nat.mul_assoc, Nat.mul_comm q, Nat.mul_assoc]; exact hc
   exact Nat.div_eq_of_eq_mul_right (by have := hq.1; omega) this
  rw [pow_dvd_one (h1.trans (one_mod hp).symm) hdv, one_mod hp]
theorem IsOrd.unique {p a n m : Nat} (hp : Pr p) (h : IsOrd p a n) (h' : IsOrd p a m) : n = m :=
 Nat.dvd_antisymm (h.dvd hp h'.one) (h'.dvd hp h.one)
theorem pow_count {q k : Nat} (hq : Pr q) {l : List Nat} (hl : ∀ x ∈ l, Pr x) (h : q ^ k ∣ mulAll l) : k ≤ l.count q := by
 induction l generalizing k with
 | nil =>
  rcases Nat.eq_zero_or_pos k with rfl | h0
  ·exact Nat.zero_le _
  ·exfalso
   have h1 : q ∣ mulAll [] := Nat.dvd_trans (by obtain ⟨j, rfl⟩ : ∃ j, k = j + 1 := ⟨k - 1, by omega⟩; exact ⟨q ^ j, by rw [Nat.pow_succ, Nat.mul_comm]⟩) h
   have := Nat.le_of_dvd (by decide) h1
   have := hq.1
   have e : mulAll [] = 1 := rfl
   omega
 | cons x t ih =>
  have ht := fun y hy => hl y (List.mem_cons_of_mem x hy)
  have h' : q ^ k ∣ x * mulAll t := h
  by_cases hx : x = q
  ·subst hx
   rw [List.count_cons_self]
   rcases Nat.eq_zero_or_pos k with rfl | h0
   ·omega
   ·obtain ⟨j, rfl⟩ : ∃ j, k = j + 1 := ⟨k - 1, by omega⟩
    rw [Nat.pow_succ, Nat.mul_comm] at h'
    have := ih ht (Nat.dvd_of_mul_dvd_mul_left (by have := hq.1; omega) h')
    omega
  ·rw [List.count_cons_of_ne hx]
   have hcop : Nat.Coprime (q ^ k) x := by
    have := hq.coprime (a := x) (fun hd => hx (hq.eq_of_dvd (hl x List.mem_cons_self) hd).symm)
    have := Nat.Coprime.pow k 1 this
    rwa [Nat.pow_one] at this
   exact ih ht (hcop.dvd_of_dvd_mul_left h')
structure OS (p a N : Nat) (rest : List Nat) (n : Nat) : Prop where
 prs : ∀ x ∈ rest, Pr x
 pos : 1 ≤ n
 dvN : n ∣ N
 one : a ^ n % p = 1
 rdv : mulAll rest ∣ n
 fin : ∀ q, Pr q → q ∣ n → a ^ (n / q) % p ≠ 1 ∨ ∀ k, q ^ k ∣ n → k ≤ rest.count q
theorem OS.step {p a N r n : Nat} {t : List Nat} (hp : Pr p) (h : OS p a N (r :: t) n) : OS p a N t (ordStep p a r n) := by
 have hr : Pr r := h.prs r List.mem_cons_self
 have hr2 := hr.1
 have ht := fun y hy => h.prs y (List.mem_cons_of_mem r hy)
 have hrd : r * mulAll t ∣ n := h.rdv
 have hrn : r ∣ n := Nat.dvd_trans ⟨_, rfl⟩ hrd
 have e : r * (n / r) = n := Nat.mul_div_cancel' hrn
 have hpos := h.pos
 unfold ordStep
 by_cases hs : a ^ (n / r) % p = 1
 ·rw [if_pos hs]
  have hdn : n / r ∣ n := ⟨r, by rw [Nat.mul_comm]; exact e.symm⟩
  refine ⟨ht, ?_, Nat.dvd_trans hdn h.dvN, hs, ?_, ?_⟩
  ·rcases Nat.eq_zero_or_pos (n / r) with h0 | h0
   ·rw [h0] at e; omega
   ·exact h0
  ·rw [← e] at hrd
   exact Nat.dvd_of_mul_dvd_mul_left (by omega) hrd
  ·intro q hq hqn
   rcases h.fin q hq (Nat.dvd_trans hqn hdn) with h1 | h1
   ·left
    intro h2
    apply h1
    have hd : n / r / q ∣ n / q := div_step hdn hqn (by
     rcases Nat.eq_zero_or_pos (n / r) with h0 | h0
     ·rw [h0] at e; omega
     ·exact h0)
    rw [pow_dvd_one (h2.trans (one_mod hp).symm) hd, one_mod hp]
   ·by_cases hqr : q = r
    ·subst hqr
     right
     intro k hk
     have := h1 (k + 1) (by rw [Nat.pow_succ, Nat.mul_comm]; exact e ▸ Nat.mul_dvd_mul (Nat.dvd_refl q) hk)
     rw [List.count_cons_self] at this
     omega
    ·right
     intro k hk
     have := h1 k (Nat.dvd_trans hk hdn)
     rwa [List.count_cons_of_ne (fun e => hqr e.symm)] at this
 ·rw [if_neg hs]
  refine ⟨ht, hpos, h.dvN, h.one, Nat.dvd_trans ⟨r, by rw [Nat.mul_comm]⟩ hrd, ?_⟩
  intro q hq hqn
  by_cases hqr : q = r
  ·subst hqr; exact Or.inl hs
  ·rcases h.fin q hq hqn with h1 | h1
   ·exact Or.inl h1
   ·right
    intro k hk
    have := h1 k hk
    rwa [List.count_cons_of_ne (fun e => hqr e.symm)] at this
theorem OS.all {p a N n : Nat} {l : List Nat} (hp : Pr p) (h : OS p a N l n) : OS p a N [] (ordL p a l n) := by
 induction l generalizing n with
 | nil => exact h
 | cons r t ih => exact ih (h.step hp)
theorem ordN_is {p a : Nat} (hp : Pr p) (ha : ¬ p ∣ a) : IsOrd p a (ordN p a) ∧ ordN p a ∣ p - 1 := by
 have hp2 := hp.1
 have hf := facs_of (n := p - 1) (by omega)
 have h0 : OS p a (p - 1) (facs (p - 1)) (p - 1) := by
  refine ⟨hf.2.1, by omega, Nat.dvd_refl _, fermat1 hp ha, by rw [hf.1]; exact Nat.dvd_refl _, ?_⟩
  intro q hq hqn
  right
  intro k hk
  exact pow_count hq hf.2.1 (by rw [hf.1]; exact hk)
 have h1 := h0.all hp
 refine ⟨⟨h1.pos, h1.one, ?_⟩, h1.dvN⟩
 intro q hq hqn
 rcases h1.fin q hq hqn with h2 | h2
 ·exact h2
 ·have := h2 1 (by rw [Nat.pow_one]; exact hqn)
  simp at this
theorem ordN_eq {p a n : Nat} (hp : Pr p) (ha : ¬ p ∣ a) (h : IsOrd p a n) : ordN p a = n := (ordN_is hp ha).1.unique hp h
theorem gen_ord {p g : Nat} (hp : Pr p) (hg : ¬ p ∣ g) : Gen p g ↔ ordN p g = p - 1 := by
 have hp2 := hp.1
 have hf := facs_of (n := p - 1) (by omega)
 constructor
 ·intro h
  refine ordN_eq hp hg ⟨by omega, fermat1 hp hg, ?_⟩
  intro q hq hqn
  exact h q (hq.mem_of_dvd hf.2.1 (by rw [hf.1]; exact hqn))
 ·intro h q hq
  have h1 := (ordN_is hp hg).1
  rw [h] at h1
  exact h1.min q (hf.2.1 q hq) (by have := dvd_mulAll hq; rw [hf.1] at this; exact this)
theorem least {P : Nat → Prop} (h : ∃ n, P n) : ∃ n, P n ∧ ∀ m, P m → n ≤ m := by
 obtain ⟨n, hn⟩ := h
 induction n using Nat.strongRecOn with
 | ind n ih =>
  by_cases hc : ∃ m, P m ∧ m < n
  ·obtain ⟨m, h1, h2⟩ := hc
   exact ih m h2 h1
  ·refine ⟨n, hn, fun m hm => ?_⟩
   apply Classical.byContradiction
   intro hc'
   exact hc ⟨m, hm, by omega⟩
def IsGen (p g : Nat) : Prop := 1 ≤ g ∧ g < p ∧ Gen p g ∧ ∀ m, 1 ≤ m → Gen p m → g ≤ m
theorem isGen_unique {p g g' : Nat} (h : IsGen p g) (h' : IsGen p g') : g = g' := by
 have a := h.2.2.2 g' h'.1 h'.2.2.1
 have b := h'.2.2.2 g h.1 h.2.2.1
 omega
theorem isGen_exists {p : Nat} (hp : Pr p) : ∃ g, IsGen p g := by
 obtain ⟨g, h1, h2, h3⟩ := gen_exists hp
 obtain ⟨m, ⟨a, b⟩, c⟩ := least (P := fun n => 1 ≤ n ∧ Gen p n) ⟨g, h1, h3⟩
 exact ⟨m, a, by have := c g ⟨h1, h3⟩; omega, b, fun n h4 h5 => c n ⟨h4, h5⟩⟩
noncomputable def genN (p : Nat) : Nat := @dite _ (∃ g, IsGen p g) (Classical.propDecidable _) (fun h => Classical.choose h) (fun _ => 0)
theorem genN_is {p : Nat} (hp : Pr p) : IsGen p (genN p) := by
 have h1 := isGen_exists hp
 unfold genN
 rw [dif_pos h1]
 exact Classical.choose_spec h1
theorem genN_eq {p g : Nat} (hp : Pr p) (h : IsGen p g) : genN p = g := isGen_unique (genN_is hp) h
noncomputable def rootN (p n : Nat) : Nat := genN p ^ ((p - 1) / n) % p
theorem rootN_ord {p n : Nat} (hp : Pr p) (hn : n ∣ p - 1) : IsOrd p (rootN p n) n := by
 have hp2 := hp.1
 have hg := genN_is hp
 have hpg : ¬ p ∣ genN p := hp.not_dvd_lt hg.1 hg.2.1
 have hn1 : 1 ≤ n := by rcases Nat.eq_zero_or_pos n with rfl | h; have := Nat.eq_zero_of_zero_dvd hn; omega; exact h
 have ho : IsOrd p (genN p) (p - 1) := by
  have := (ordN_is hp hpg).1
  rwa [(gen_ord hp hpg).1 hg.2.2.1] at this
 have hpw : ∀ k, rootN p n ^ k % p = genN p ^ ((p - 1) / n * k) % p := by
  intro k; unfold rootN; rw [← Nat.pow_mod, ← Nat.pow_mul]
 refine ⟨hn1, ?_, ?_⟩
 ·rw [hpw, Nat.div_mul_cancel hn]; exact ho.one
 ·intro q hq hqn
  rw [hpw]
  have : (p - 1) / n * (n / q) = (p - 1) / q := by
   obtain ⟨c, hc⟩ := hqn
   obtain ⟨d, hd⟩ := hn
   have hq0 : 0 < q := by have := hq.1; omega
   rw [hd, Nat.mul_div_cancel_left _ (by omega), hc, Nat.mul_div_cancel_left _ hq0, Nat.mul_assoc, Nat.mul_div_cancel_left _ hq0, Nat.mul_comm]
  rw [this]
  exact ho.min q hq (Nat.dvd_trans hqn hn)
end Go.Proofs.YtelkokcnedbmeaaGreat.Num
namespace Go.Proofs.YtelkokcnedbmeaaGreat
open Go.RowKit Num
set_option maxRecDepth 20000
set_option maxRecDepth 8000
set_option linter.unusedVariables false
theorem fac_ge {n : Nat} (h : 1 ≤ n) {k : Nat} (hk : k < (facs n).length) : 2 ≤ (facs n).getD k 0 := by
 rw [getD_lt _ _ hk]; exact ((facs_of h).2.1 _ (List.getElem_mem hk)).1
theorem fac_le {n : Nat} (h : 1 ≤ n) {k : Nat} (hk : k < (facs n).length) : (facs n).getD k 0 ≤ n := by
 rw [getD_lt _ _ hk]
 have h1 := dvd_mulAll (List.getElem_mem hk)
 rw [(facs_of h).1] at h1
 exact Nat.le_of_dvd (by omega) h1
theorem fac_len {n : Nat} (h : 1 ≤ n) (h2 : n ≤ 2000000000) : (facs n).length < 32 :=
 len_lt (facs_of h).2.1 (Nat.le_of_eq (facs_of h).1) (by omega)
end Go.Proofs.YtelkokcnedbmeaaGreat
namespace Go.Proofs.YtelkokcnedbmeaaGreat
open Go.RowKit Num
set_option maxRecDepth 20000
set_option maxRecDepth 8000
set_option linter.unusedVariables false
theorem gen_at {P a : Nat} (hP : Pr P) (h1 : 1 ≤ a) (h2 : a < P) (hg : Gen P a) (hm : ∀ m, 1 ≤ m → m < a → ¬ Gen P m) : genN P = a :=
 genN_eq hP ⟨h1, h2, hg, fun m h3 h4 => by
  apply Classical.byContradiction
  intro hc
  exact hm m h3 (by omega) h4⟩
theorem gen_last {P : Nat} (hP : Pr P) (hm : ∀ m, 1 ≤ m → m < P - 1 → ¬ Gen P m) : genN P = P - 1 := by
 obtain ⟨a, b, c, d⟩ := genN_is hP
 apply Classical.byContradiction
 intro hc
 exact hm _ a (by omega) c
theorem gen_of {P a : Nat} (h : ∀ j, j < (facs (P - 1)).length → a ^ ((P - 1) / (facs (P - 1)).getD j 0) % P ≠ 1) : Gen P a := by
 intro q hq
 obtain ⟨j, hj, e⟩ := List.getElem_of_mem hq
 have := h j hj
 rw [getD_lt _ _ hj, e] at this
 exact this
theorem not_gen {P a j : Nat} (hj : j < (facs (P - 1)).length) (h : a ^ ((P - 1) / (facs (P - 1)).getD j 0) % P = 1) : ¬ Gen P a := by
 intro hg
 have := hg _ (List.getElem_mem hj)
 rw [getD_lt _ _ hj] at h
 exact this h
theorem gen_in (P : Nat) (w : World) (h2 : 2 ≤ P) (h3 : P ≤ 2000000000) (hP : Pr P) :
 Calls Tryz.prog 111 #[.int .i64 P] w fun e w' => e = .returned (.int .i64 ((genN P : Nat) : Int)) ∧ Below w.heap.size w w' := by
 have HP := Lib.hid hP
 clear hP
 have g0 : IntKind.i64.wrap ((P : Int) - 1) = ((P - 1 : Nat) : Int) := by rw [IntWalk.i64_in _ (by omega)]; omega
 have hfl := fac_len (n := P - 1) (by omega) (by omega)
 have hml := toI_len (facs (P - 1))
 have hge := Lib.hid (fun (k : Nat) hk => fac_ge (n := P - 1) (k := k) (by omega) hk)
 have hle := Lib.hid (fun (k : Nat) hk => fac_le (n := P - 1) (k := k) (by omega) hk)
 go_enter Tryz.func111, Tryz.ntmps111
 go_wp2
 go_step3
 go_wp2_with fail
 refine (factors_any (P - 1) _ (by omega) (by omega)).mono ?_
 rintro _ w1 ⟨A1, c1, rfl, r1, hb1⟩
 go_wp2
 go_step3
 go_wp2
 (try simp only [hml])
 go_loopg [4] (P - 1) (fun gk a wr => ∃ g : Nat, g + gk = P ∧ a = .int .i64 g ∧ 1 ≤ g ∧ g < P ∧ Below w.heap.size w wr ∧ RI .i64 wr A1 (toI (facs (P - 1))) ∧ Hid (∀ m, 1 ≤ m → m < g → ¬ Gen P m))
 case atStart => exact ⟨1, by omega, rfl, by omega, by omega, hb1, r1, Lib.hid (by intro m h1 h2; omega)⟩
 case round =>
  obtain ⟨g, hg, rfl, hg1, hg2, hb, hr, HM⟩ := hrel
  have HG := Lib.hid hg
  clear hg
  by_cases hlt : g < P - 1
  ·obtain ⟨gu, hgu⟩ : ∃ gu, gu = gk := ⟨gk, rfl⟩
   have HGU := Lib.hid hgu
   clear hgu
   have d1 : decide (g < P - 1) = true := decide_eq_true hlt
   have d2 : decide ((g : Int) < ((P - 1 : Nat) : Int)) = true := decide_eq_true (by omega)
   go_wp2
   clear d1 d2
   go_loopg [18] (facs (P - 1)).length (fun gk i wr => ∃ k : Nat, k + gk = (facs (P - 1)).length ∧ i = .int .i64 k ∧ Below w.heap.size w wr ∧ RI .i64 wr A1 (toI (facs (P - 1))) ∧ Hid (∀ j, j < k → g ^ ((P - 1) / (facs (P - 1)).getD j 0) % P ≠ 1))
   case atStart => exact ⟨0, by omega, rfl, hb, hr, Lib.hid (by intro j hj; omega)⟩
   case round =>
    obtain ⟨k, hk, rfl, hb', hr', HJ⟩ := hrel
    have hk' : k ≤ (facs (P - 1)).length := by omega
    have HK := Lib.hid hk
    clear hk
    by_cases hlt2 : k < (facs (P - 1)).length
    ·obtain ⟨b1, off1, rfl, hlw1, hc1⟩ := hr'.at2 (i := k) (by rw [hml]; exact hlt2)
     rw [toI_at _ hlt2] at hc1
     have hq2 := hge.out k hlt2
     have hqle := hle.out k hlt2
     have HNG := Lib.hid (fun h => not_gen (P := P) (a := g) (j := k) hlt2 h)
     generalize hq : (facs (P - 1)).getD k 0 = q at *
     have HQ := Lib.hid hq
     clear hq
     have g1 : wrap64 (((P - 1 : Nat) : Int) / (q : Int)) = (((P - 1) / q : Nat) : Int) := quo_wrap (by omega)
     have g2 : (P - 1) / q ≤ P - 1 := Nat.div_le_self _ q
     go_wp2_with fail
     rw [g1]
     refine (power_any P g ((P - 1) / q) _ h2 h3 (by omega) (by omega)).mono ?_
     rintro _ w2 ⟨rfl, hb2⟩
     have hB2 := bstep hb' hb2
     have hr2 := hr'.keep hb2
     generalize hX : g ^ ((P - 1) / q) % P = X
     by_cases h1 : X = 1
     ·have f2 : ((X : Int) == 1) = true := by rw [h1]; rfl
      have HN := Lib.hid (HNG.out (hX.trans h1))
      clear h1 hX hc1
      go_wp2
      go_roundg (gu - 1)
      case rel =>
       refine ⟨g + 1, by have := HG.out; have := HGU.out; omega, by go_num, by omega, by omega, hB2, hr2, Lib.hid ?_⟩
       intro m h1 h4
       by_cases e : m = g
       ·subst e; exact HN.out
       ·exact HM.out m h1 (by omega)
      case measure => have := HG.out; have := HGU.out; omega
     ·have f2 : ((X : Int) == 1) = false := by rw [beq_eq_false_iff_ne]; omega
      have HN := Lib.hid (show g ^ ((P - 1) / q) % P ≠ 1 by rw [hX]; exact h1)
      clear h1 hX hc1
      go_wp2
      go_roundg (gk - 1)
      case rel =>
       refine ⟨k + 1, by have := HK.out; omega, by go_num, hB2, hr2, Lib.hid ?_⟩
       intro j hj
       by_cases e : j = k
       ·subst e; rw [HQ.out]; exact HN.out
       ·exact HJ.out j (by omega)
      case measure => have := HK.out; omega
    ·have HGN := Lib.hid (gen_at HP.out hg1 hg2 (gen_of (fun j hj => HJ.out j (by omega))) HM.out)
     go_wp2
     (try rw [Exit.noGoto_ret])
     go_ret
     exact ⟨ret_int (by rw [HGN.out]), hb'⟩
  ·have e1 := Lib.hid (show g = P - 1 by omega)
   have HGN := Lib.hid (gen_last HP.out (fun m h1 h4 => HM.out m h1 (by have := e1.out; omega)))
   have d1 : decide (g < P - 1) = false := decide_eq_false hlt
   have d2 : decide ((g : Int) < ((P - 1 : Nat) : Int)) = false := decide_eq_false (by omega)
   go_wp2
   (try rw [Exit.noGoto_ret])
   go_ret
   exact ⟨ret_int (by rw [HGN.out, ← e1.out]), hb⟩
end Go.Proofs.YtelkokcnedbmeaaGreat
namespace Go.Proofs.YtelkokcnedbmeaaGreat
open Go.RowKit Num
set_option maxRecDepth 20000
set_option maxRecDepth 8000
set_option linter.unusedVariables false
noncomputable def rootS (p n : Int) : Int × Int :=
 if okP p = true then (if n < 1 then (0, 2) else if (p - 1) % n ≠ 0 then (0, 6) else (((rootN p.toNat n.toNat : Nat) : Int), 0)) else (0, 2)
theorem genN_lt {P : Nat} (hP : Pr P) : genN P < P := (genN_is hP).2.1
set_option maxHeartbeats 400000 in
theorem ringRoot_any (p n : Int) (w : World) (hp1 : -9223372036854775808 ≤ p) (hp2 : p ≤ 9223372036854775807) (hn2 : n ≤ 9223372036854775807) :
 Calls Tryz.prog 103 #[.int .i64 p, .int .i64 n] w (RetV w (rootS p n)) := by
 rcases ok_cases p with ⟨e0, e1, P, rfl, h2, h3, hP⟩ | ⟨e0, e1⟩
 ·have c0 : (chkE (P : Int) != 0) = false := by rw [e0]; rfl
  have HP := Lib.hid hP
  clear hP
  by_cases hn : n < 1
  ·have HS := Lib.hid (show rootS P n = (0, 2) by unfold rootS; rw [if_pos e1, if_pos hn])
   go_enter Tryz.func103, Tryz.ntmps103
   go_wp2_with fail
   refine (ringCheck_any _ _ (by omega) (by omega)).mono ?_
   rintro _ w1 ⟨rfl, hb1⟩
   go_wp2
   go_ret2
   exact RetV.mk HS.out hb1
  ·obtain ⟨N, rfl⟩ : ∃ N : Nat, n = N := ⟨n.toNat, by omega⟩
   have hN : 1 ≤ N := by omega
   have g0 : IntKind.i64.wrap ((P : Int) - 1) = ((P - 1 : Nat) : Int) := by rw [IntWalk.i64_in _ (by omega)]; omega
   have eP : ((P - 1 : Nat) : Int) = (P : Int) - 1 := by omega
   by_cases hm : (P - 1) % N = 0
   ·have f1 : ((((P - 1) % N : Nat) : Int) != 0) = false := by rw [hm]; rfl
    have HS := Lib.hid (show rootS P N = (((rootN P N : Nat) : Int), 0) by
     unfold rootS
     rw [if_pos e1, if_neg hn, if_neg (by rw [← eP, ← Int.natCast_emod, hm]; simp)]; rfl)
    have hgl := genN_lt HP.out
    have hg1 : wrap64 (((P - 1 : Nat) : Int) / (N : Int)) = (((P - 1) / N : Nat) : Int) := quo_wrap (by omega)
    have hg1' : IntKind.i64.wrap (((P - 1 : Nat) : Int) / (N : Int)) = (((P - 1) / N : Nat) : Int) := by rw [IntWalk.i64_left]; exact hg1
    have hg2 : (P - 1) / N ≤ P - 1 := Nat.div_le_self _ N
    have HR := Lib.hid (show rootN P N = genN P ^ ((P - 1) / N) % P from rfl)
    have hz1 : ((N : Int) == 0) = false := by rw [beq_eq_false_iff_ne]; omega
    have hz2 : ¬ ((N : Int) = 0) := by omega
    have hz3 : ¬ (N = 0) := by omega
    clear hn hm eP
    generalize hQ : (P - 1) / N = Q at *
    clear hQ
    go_enter Tryz.func103, Tryz.ntmps103
    go_wp2_with fail
    refine (ringCheck_any _ _ (by omega) (by omega)).mono ?_
    rintro _ w1 ⟨rfl, hb1⟩
    go_wp2
    go_region_held3 (fun _ => True) (first | go_keep | exact trivial)
     ((first
       |(go_at_call 111; refine (gen_in P _ h2 h3 HP.out).mono ?_; rintro e w5 ⟨rfl, hb5⟩)
       |(go_at_call 110;  refine (power_any P (genN P) Q _ h2 h3 (by omega) (by omega)).mono ?_; rintro e w6 ⟨rfl, hb6⟩; rw [← HR.out])))
    all_goals go_wp2
    all_goals go_ret2
    all_goals exact RetV.mk HS.out (bstep (bstep (hb1.trans (below_drewN (Below.refl _ _) _)) hb5) hb6)
   ·have f1 : ((((P - 1) % N : Nat) : Int) != 0) = true := by rw [bne_iff_ne]; omega
    have HS := Lib.hid (show rootS P N = (0, 6) by
     unfold rootS
     rw [if_pos e1, if_neg hn, if_pos (by rw [← eP, ← Int.natCast_emod]; omega)])
    clear hn hm eP
    go_enter Tryz.func103, Tryz.ntmps103
    go_wp2_with fail
    refine (ringCheck_any _ _ (by omega) (by omega)).mono ?_
    rintro _ w1 ⟨rfl, hb1⟩
    go_wp2
    go_ret2
    exact RetV.mk HS.out hb1
 ·have c0 : (chkE p != 0) = true := by rw [e0]; rfl
  have HS := Lib.hid (show rootS p n = (0, chkE p) by unfold rootS; rw [e1, e0]; rfl)
  clear e0
  go_enter Tryz.func103, Tryz.ntmps103
  go_wp2_with fail
  refine (ringCheck_any _ _ hp1 hp2).mono ?_
  rintro _ w1 ⟨rfl, hb1⟩
  have hB := hb1
  go_wp2
  go_ret2
  exact RetV.mk HS.out hB
end Go.Proofs.YtelkokcnedbmeaaGreat
