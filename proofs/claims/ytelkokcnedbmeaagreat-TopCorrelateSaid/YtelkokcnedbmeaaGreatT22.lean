/-
  Parts of the proof of TopCorrelate: RingA NumA NumB.
-/
import Derived.Test.YtelkokcnedbmeaaGreatProg
import Derived.Test.YtelkokcnedbmeaaGreatT01
import Derived.StillTailTactics
import Derived.Deep.LoopGhost
import Derived.Deep.QuietTactic
import Derived.BigQuiet
namespace Go.Proofs.YtelkokcnedbmeaaGreat
open Go.RowKit
set_option maxRecDepth 20000
set_option maxRecDepth 8000
set_option linter.unusedVariables false
theorem mul_fit {x y : Nat} (hx : x ≤ 2000000000) (hy : y ≤ 2000000000) : ((x : Int) * (y : Int)) ≤ 4000000000000000000 ∧ 0 ≤ (x : Int) * (y : Int) := by
 have h := Nat.mul_le_mul hx hy
 have : ((x * y : Nat) : Int) ≤ ((2000000000 * 2000000000 : Nat) : Int) := by exact_mod_cast h
 rw [Int.natCast_mul] at this
 refine ⟨by omega, ?_⟩
 rw [← Int.natCast_mul]; omega
theorem mul_wrap {x y : Nat} (hx : x ≤ 2000000000) (hy : y ≤ 2000000000) : IntKind.i64.wrap ((x : Int) * (y : Int)) = ((x * y : Nat) : Int) := by
 have := mul_fit hx hy
 rw [IntWalk.i64_in _ (by omega), Int.natCast_mul]
theorem pow_odd {r b m p : Nat} (h : m % 2 = 1) : (r * b % p) * (b * b % p) ^ (m / 2) % p = r * b ^ m % p := by
 have e : m = 2 * (m / 2) + 1 := by omega
 have e2 : b ^ m = b * (b * b) ^ (m / 2) := by
  rw [← Nat.pow_two, ← Nat.pow_mul, Nat.mul_comm b, ← Nat.pow_succ]; exact congrArg (b ^ ·) e
 rw [e2, Nat.mul_mod, Nat.mod_mod, Nat.pow_mod, Nat.mod_mod, ← Nat.pow_mod, ← Nat.mul_mod, Nat.mul_assoc]
theorem pow_even {r b m p : Nat} (h : m % 2 = 0) : r * (b * b % p) ^ (m / 2) % p = r * b ^ m % p := by
 have e : m = 2 * (m / 2) := by omega
 have e2 : b ^ m = (b * b) ^ (m / 2) := by
  rw [← Nat.pow_two, ← Nat.pow_mul]; exact congrArg (b ^ ·) e
 rw [e2, Nat.mul_mod, Nat.pow_mod, Nat.mod_mod, ← Nat.pow_mod, ← Nat.mul_mod]
theorem times_any (p x y : Nat) (g : Nat) (t : TypeId) (w : World) (hg : Blk w g t #[.int .i64 p]) (hp : 1 ≤ p) (hx : x ≤ 2000000000) (hy : y ≤ 2000000000) :
 Calls Tryz.prog 114 #[.int .i64 x, .int .i64 y, .pointer (some ⟨g, 0, none⟩)] w fun e w' => e = .returned (.int .i64 ((x * y % p : Nat) : Int)) ∧ w' = w := by
 have f1 := mul_wrap hx hy
 have q0 : World.cell? w ⟨g, 0, none⟩ = some (.int .i64 p) := hg.cell 0
 go_enter Tryz.func114, Tryz.ntmps114
 go_wp2
 go_ret
 exact ⟨rfl, rfl⟩
theorem power_any (p a n : Nat) (w : World) (hp : 2 ≤ p) (hp2 : p ≤ 2000000000) (ha : a ≤ 2000000000) (hn : n ≤ 9223372036854775807) :
 Calls Tryz.prog 110 #[.int .i64 p, .int .i64 a, .int .i64 n] w fun e w' => e = .returned (.int .i64 ((a ^ n % p : Nat) : Int)) ∧ Below w.heap.size w w' := by
 have hmf : ∀ (fn : Fn) (first cap : Array Value) (w : World), (Instr.makeFunc fn first cap).run Tryz.prog w = .ok (.func fn first cap) w := fun _ _ _ _ => rfl
 have e1 : 1 % p = 1 := Nat.mod_eq_of_lt (by omega)
 go_enter Tryz.func110, Tryz.ntmps110
 go_wp2
 go_loopg [8, 1, 2] n (fun gk o b m wr => ∃ r c : Nat, o = .int .i64 r ∧ b = .int .i64 c ∧ m = .int .i64 gk ∧ wr = w.alloc (.cells #[.int .i64 p] 2) ∧ gk ≤ n ∧ r < p ∧ c ≤ 2000000000 ∧ Hid (r * c ^ gk % p = a ^ n % p))
 case atStart => exact ⟨1, a, by rw [show (1 : Int) % (p : Int) = ((1 % p : Nat) : Int) from rfl, e1], rfl, rfl, rfl, by omega, by omega, ha, Lib.hid (by rw [Nat.one_mul])⟩
 case round =>
  obtain ⟨r, c, rfl, rfl, rfl, rfl, hgn, hr, hc, HI⟩ := hrel
  have hb := Blk.new w 2 #[.int .i64 (p : Int)]
  by_cases h0 : 0 < gk
  ·have b1 : c * c % p < p := Nat.mod_lt _ (by omega)
   have b2 : r * c % p < p := Nat.mod_lt _ (by omega)
   by_cases ho : gk % 2 = 1
   ·have f3 : (((gk % 2 : Nat) : Int) == 1) = true := by rw [ho]; rfl
    go_wp2_with fail
    refine (times_any p r c w.heap.size _ _ hb (by omega) (by omega) hc).mono ?_
    rintro _ w1 ⟨rfl, rfl⟩
    go_wp2_with fail
    refine (times_any p c c w.heap.size _ _ hb (by omega) hc hc).mono ?_
    rintro _ w1 ⟨rfl, rfl⟩
    go_wp2
    go_roundg (gk / 2)
    case rel => exact ⟨r * c % p, c * c % p, rfl, rfl, rfl, rfl, by omega, b2, by omega, Lib.hid ((pow_odd ho).trans HI.out)⟩
    case measure => omega
   ·have f3 : (((gk % 2 : Nat) : Int) == 1) = false := by rw [show gk % 2 = 0 by omega]; rfl
    go_wp2_with fail
    refine (times_any p c c w.heap.size _ _ hb (by omega) hc hc).mono ?_
    rintro _ w1 ⟨rfl, rfl⟩
    go_wp2
    go_roundg (gk / 2)
    case rel => exact ⟨r, c * c % p, rfl, rfl, rfl, rfl, by omega, hr, by omega, Lib.hid ((pow_even (by omega)).trans HI.out)⟩
    case measure => omega
  ·have e := Lib.hid (show gk = 0 by omega)
   have d0 : decide (0 < gk) = false := decide_eq_false (by omega)
   have d1 : decide ((0 : Int) < (gk : Int)) = false := decide_eq_false (by omega)
   clear h0
   go_wp2
   go_ret
   have := HI.out
   rw [e.out, Nat.pow_zero, Nat.mul_one, Nat.mod_eq_of_lt hr] at this
   exact ⟨ret_int (by rw [this]), balloc (Below.refl _ _) _⟩
end Go.Proofs.YtelkokcnedbmeaaGreat
namespace Go.Proofs.YtelkokcnedbmeaaGreat.Num
set_option maxRecDepth 20000
def Pr (p : Nat) : Prop := 2 ≤ p ∧ ∀ d, d ∣ p → d = 1 ∨ d = p
theorem exists_pr {n : Nat} (h : 2 ≤ n) : ∃ p, Pr p ∧ p ∣ n := by
 induction n using Nat.strongRecOn with
 | ind n ih =>
  by_cases hp : Pr n
  ·exact ⟨n, hp, Nat.dvd_refl n⟩
  ·have : ∃ d, d ∣ n ∧ d ≠ 1 ∧ d ≠ n := by
    apply Classical.byContradiction
    intro hc
    apply hp
    refine ⟨h, fun d hd => ?_⟩
    by_cases h1 : d = 1
    ·exact Or.inl h1
    ·by_cases h2 : d = n
     ·exact Or.inr h2
     ·exact absurd ⟨d, hd, h1, h2⟩ hc
   obtain ⟨d, hd, h1, h2⟩ := this
   have hle := Nat.le_of_dvd (by omega) hd
   have h0 : d ≠ 0 := by rintro rfl; have := Nat.eq_zero_of_zero_dvd hd; omega
   obtain ⟨p, hp1, hp2⟩ := ih d (by omega) (by omega)
   exact ⟨p, hp1, Nat.dvd_trans hp2 hd⟩
theorem Pr.coprime {p a : Nat} (hp : Pr p) (h : ¬ p ∣ a) : Nat.Coprime p a := by
 rcases hp.2 _ (Nat.gcd_dvd_left p a) with h1 | h1
 ·exact h1
 ·exact absurd (h1 ▸ Nat.gcd_dvd_right p a) h
theorem Pr.dvd_mul {p a b : Nat} (hp : Pr p) (h : p ∣ a * b) : p ∣ a ∨ p ∣ b := by
 by_cases ha : p ∣ a
 ·exact Or.inl ha
 ·exact Or.inr ((hp.coprime ha).dvd_of_dvd_mul_left h)
theorem Pr.dvd_pow {p a n : Nat} (hp : Pr p) (h : p ∣ a ^ n) : p ∣ a := by
 induction n with
 | zero => rw [Nat.pow_zero] at h; have := Nat.le_of_dvd (by omega) h; have := hp.1; omega
 | succ n ih => rw [Nat.pow_succ] at h; rcases hp.dvd_mul h with h | h
                ·exact ih h
                ·exact h
theorem pr_trial {n : Nat} (h : 2 ≤ n) (ht : ∀ d, 2 ≤ d → d * d ≤ n → ¬ d ∣ n) : Pr n := by
 obtain ⟨p, hp, hd⟩ := exists_pr h
 obtain ⟨c, hc⟩ := hd
 have hp2 := hp.1
 by_cases hc1 : c = 1
 ·subst hc1; rw [Nat.mul_one] at hc; rw [hc]; exact hp
 ·have hc0 : c ≠ 0 := by rintro rfl; omega
  exfalso
  by_cases hle : p ≤ c
  ·exact ht p hp2 (by rw [hc]; exact Nat.mul_le_mul_left p hle) ⟨c, hc⟩
  ·exact ht c (by omega) (by rw [hc]; exact Nat.mul_le_mul_right c (by omega)) ⟨p, by rw [hc, Nat.mul_comm]⟩
theorem Pr.not_dvd_lt {p a : Nat} (_ : Pr p) (h0 : 0 < a) (h : a < p) : ¬ p ∣ a := by
 intro hd; have := Nat.le_of_dvd h0 hd; omega
theorem Pr.eq_of_dvd {p q : Nat} (hp : Pr p) (hq : Pr q) (h : p ∣ q) : p = q := by
 rcases hq.2 _ h with h | h
 ·have := hp.1; omega
 ·exact h
def ch : Nat → Nat → Nat
 | _, 0 => 1
 | 0, _ + 1 => 0
 | n + 1, k + 1 => ch n k + ch n (k + 1)
theorem ch_over {n k : Nat} (h : n < k) : ch n k = 0 := by
 induction n generalizing k with
 | zero => cases k with
  | zero => omega
  | succ k => rfl
 | succ n ih => cases k with
  | zero => omega
  | succ k => show ch n k + ch n (k + 1) = 0; rw [ih (by omega), ih (by omega)]
theorem ch_self (n : Nat) : ch n n = 1 := by
 induction n with
 | zero => rfl
 | succ n ih => show ch n n + ch n (n + 1) = 1; rw [ih, ch_over (by omega)]
theorem ch_mul (n k : Nat) : (k + 1) * ch (n + 1) (k + 1) = (n + 1) * ch n k := by
 induction n generalizing k with
 | zero => cases k with
  | zero => rfl
  | succ k => rw [ch_over (n := 0) (by omega), ch_over (n := 0 + 1) (by omega)]; rfl
 | succ n ih =>
  cases k with
  | zero =>
   have := ih 0
   show (0 + 1) * (ch (n + 1) 0 + ch (n + 1) (0 + 1)) = _
   have e : ch (n + 1) 0 = 1 := rfl
   have e2 : ch n 0 = 1 := by cases n <;> rfl
   rw [e]; rw [e2] at this
   omega
  | succ k =>
   show (k + 1 + 1) * (ch (n + 1) (k + 1) + ch (n + 1) (k + 1 + 1)) = (n + 1 + 1) * ch (n + 1) (k + 1)
   have h1 := ih k
   have h2 := ih (k + 1)
   have e : ch (n + 1) (k + 1) = ch n k + ch n (k + 1) := rfl
   generalize ch (n + 1) (k + 1 + 1) = X at *
   generalize hY : ch (n + 1) (k + 1) = Y at *
   generalize ch n k = Z at *
   generalize ch n (k + 1) = W at *
   subst e
   grind
def bs (n a : Nat) : Nat → Nat
 | 0 => 0
 | m + 1 => bs n a m + ch n m * a ^ m
theorem bs_step (n a m : Nat) : bs (n + 1) a (m + 1) = bs n a (m + 1) + a * bs n a m := by
 induction m with
 | zero => show 0 + ch (n + 1) 0 * a ^ 0 = 0 + ch n 0 * a ^ 0 + a * 0
           have : ch n 0 = 1 := by cases n <;> rfl
           rw [this]; rfl
 | succ m ih =>
  have h1 : bs (n + 1) a (m + 1 + 1) = bs (n + 1) a (m + 1) + ch (n + 1) (m + 1) * a ^ (m + 1) := rfl
  have h2 : bs n a (m + 1 + 1) = bs n a (m + 1) + ch n (m + 1) * a ^ (m + 1) := rfl
  have h3 : bs n a (m + 1) = bs n a m + ch n m * a ^ m := rfl
  have h4 : ch (n + 1) (m + 1) = ch n m + ch n (m + 1) := rfl
  rw [h1, ih, h2, h4, h3, Nat.pow_succ]
  grind
theorem binom (n a : Nat) : (a + 1) ^ n = bs n a (n + 1) := by
 induction n with
 | zero => rfl
 | succ n ih =>
  rw [bs_step, Nat.pow_succ, ih]
  have : bs n a (n + 1 + 1) = bs n a (n + 1) + ch n (n + 1) * a ^ (n + 1) := rfl
  rw [this, ch_over (by omega)]
  grind
theorem pr_dvd_ch {p k : Nat} (hp : Pr p) (h0 : 0 < k) (h : k < p) : p ∣ ch p k := by
 obtain ⟨m, rfl⟩ : ∃ m, k = m + 1 := ⟨k - 1, by omega⟩
 obtain ⟨q, rfl⟩ : ∃ q, p = q + 1 := ⟨p - 1, by have := hp.1; omega⟩
 have := ch_mul q m
 rcases hp.dvd_mul (⟨_, this⟩ : q + 1 ∣ (m + 1) * ch (q + 1) (m + 1)) with h1 | h1
 ·exact absurd h1 (hp.not_dvd_lt h0 h)
 ·exact h1
theorem bs_mod {p a m : Nat} (hp : Pr p) (h0 : 0 < m) (h : m ≤ p) : bs p a m % p = 1 % p := by
 induction m with
 | zero => omega
 | succ m ih =>
  cases m with
  | zero => show (0 + ch p 0 * a ^ 0) % p = _
            have : ch p 0 = 1 := by cases p <;> rfl
            rw [this]; rfl
  | succ m =>
   show (bs p a (m + 1) + ch p (m + 1) * a ^ (m + 1)) % p = _
   obtain ⟨c, hc⟩ := pr_dvd_ch hp (k := m + 1) (by omega) (by omega)
   rw [hc, Nat.mul_assoc, Nat.add_mul_mod_self_left]
   exact ih (by omega) (by omega)
theorem fermat {p : Nat} (hp : Pr p) (a : Nat) : a ^ p % p = a % p := by
 have h2 := hp.1
 induction a with
 | zero => rw [Nat.zero_pow (by omega)]
 | succ a ih =>
  rw [binom]
  show (bs p a p + ch p p * a ^ p) % p = _
  rw [ch_self, Nat.one_mul, Nat.add_mod, bs_mod hp (by omega) (Nat.le_refl p), ih, ← Nat.add_mod, Nat.add_comm]
theorem dvd_sub_of_mod {a b n : Nat} (h : a % n = b % n) : n ∣ a - b :=
 Nat.dvd_of_mod_eq_zero (Nat.sub_mod_eq_zero_of_mod_eq h)
theorem mod_of_dvd_sub {a b n : Nat} (hle : b ≤ a) (h : n ∣ a - b) : a % n = b % n := by
 obtain ⟨c, hc⟩ := h
 have : a = b + n * c := by omega
 rw [this, Nat.add_mul_mod_self_left]
theorem fermat1 {p a : Nat} (hp : Pr p) (h : ¬ p ∣ a) : a ^ (p - 1) % p = 1 := by
 have h2 := hp.1
 have ha : 0 < a := by rcases Nat.eq_zero_or_pos a with rfl | h0; exact absurd (Nat.dvd_zero p) h; exact h0
 have h1 := dvd_sub_of_mod (fermat hp a)
 obtain ⟨q, rfl⟩ : ∃ q, p = q + 1 := ⟨p - 1, by omega⟩
 have e : a ^ (q + 1) - a = a * (a ^ q - 1) := by rw [Nat.pow_succ, Nat.mul_sub, Nat.mul_one, Nat.mul_comm]
 rw [e] at h1
 rcases hp.dvd_mul h1 with h1 | h1
 ·exact absurd h1 h
 ·rw [Nat.add_sub_cancel, mod_of_dvd_sub (Nat.pow_pos ha) h1]
  exact Nat.mod_eq_of_lt (by omega)
theorem mul_mod_one {a b n : Nat} (ha : a % n = 1 % n) : (a * b) % n = b % n := by
 rw [Nat.mul_mod, ha, ← Nat.mul_mod, Nat.one_mul]
theorem pow_one_mul {a m k n : Nat} (h : a ^ m % n = 1 % n) : a ^ (m * k) % n = 1 % n := by
 rw [Nat.pow_mul, Nat.pow_mod, h, ← Nat.pow_mod, Nat.one_pow]
theorem pow_dvd_one {a m k n : Nat} (h : a ^ m % n = 1 % n) (hd : m ∣ k) : a ^ k % n = 1 % n := by
 obtain ⟨c, rfl⟩ := hd; exact pow_one_mul h
theorem pow_gcd {a m k n : Nat} (h1 : a ^ m % n = 1 % n) (h2 : a ^ k % n = 1 % n) : a ^ (Nat.gcd m k) % n = 1 % n := by
 induction m, k using Nat.gcd.induction with
 | H0 k => rw [Nat.gcd_zero_left]; exact h2
 | H1 m k hm ih =>
  rw [Nat.gcd_rec]
  refine ih ?_ h1
  have e : a ^ k = a ^ (m * (k / m)) * a ^ (k % m) := by rw [← Nat.pow_add, Nat.div_add_mod]
  rw [e, mul_mod_one (pow_one_mul h1)] at h2
  exact h2
theorem mod_trans {a b n d : Nat} (h : a % n = b % n) (hd : d ∣ n) : a % d = b % d := by
 rw [← Nat.mod_mod_of_dvd a hd, h, Nat.mod_mod_of_dvd b hd]
end Go.Proofs.YtelkokcnedbmeaaGreat.Num
namespace Go.Proofs.YtelkokcnedbmeaaGreat.Num
set_option maxRecDepth 20000
theorem exists_least {n : Nat} (h : 2 ≤ n) : ∃ p, Pr p ∧ p ∣ n ∧ ∀ q, Pr q → q ∣ n → p ≤ q := by
 have key : ∀ k p, p ≤ k → Pr p → p ∣ n → ∃ p, Pr p ∧ p ∣ n ∧ ∀ q, Pr q → q ∣ n → p ≤ q := by
  intro k
  induction k with
  | zero => intro p hle hp _; have := hp.1; omega
  | succ k ih =>
   intro p hle hp hd
   by_cases hq : ∃ q, Pr q ∧ q ∣ n ∧ q < p
   ·obtain ⟨q, h1, h2, h3⟩ := hq
    exact ih q (by omega) h1 h2
   ·refine ⟨p, hp, hd, fun q h1 h2 => ?_⟩
    apply Classical.byContradiction
    intro hc
    exact hq ⟨q, h1, h2, by omega⟩
 obtain ⟨p, hp, hd⟩ := exists_pr h
 exact key p p (Nat.le_refl p) hp hd
def SP (n t d a : Nat) : Prop := a ^ d % n = 1 ∨ ∃ i, i < t ∧ a ^ (2 ^ i * d) % n = n - 1
theorem neg_sq {x n : Nat} (h2 : 2 ≤ n) (h : x % n = n - 1) : (x * x) % n = 1 := by
 rw [Nat.mul_mod, h]
 obtain ⟨m, rfl⟩ : ∃ m, n = m + 2 := ⟨n - 2, by omega⟩
 have : (m + 2 - 1) * (m + 2 - 1) = 1 + (m + 2) * m := by
  have : m + 2 - 1 = m + 1 := by omega
  rw [this]; grind
 rw [this, Nat.add_mul_mod_self_left]
 exact Nat.mod_eq_of_lt (by omega)
theorem neg_pow_odd {x n k : Nat} (h2 : 2 ≤ n) (h : x % n = n - 1) (hk : k % 2 = 1) : x ^ k % n = n - 1 := by
 obtain ⟨j, rfl⟩ : ∃ j, k = 2 * j + 1 := ⟨k / 2, by omega⟩
 have h1 : (x ^ 2) ^ j % n = 1 % n := by
  rw [Nat.pow_mod, Nat.pow_two, neg_sq h2 h]
  rw [Nat.one_pow]
 rw [Nat.pow_succ, Nat.pow_mul, mul_mod_one h1, h]
theorem sp_fermat {n t d a : Nat} (h3 : 3 ≤ n) (hn : n - 1 = 2 ^ t * d) (h : SP n t d a) : a ^ (n - 1) % n = 1 := by
 have e1 : 1 % n = 1 := Nat.mod_eq_of_lt (by omega)
 rcases h with h | ⟨i, hi, h⟩
 ·have := pow_dvd_one (h.trans e1.symm) (k := n - 1) ⟨2 ^ t, by rw [hn, Nat.mul_comm]⟩
  rw [this, e1]
 ·have h1 := neg_sq (by omega) h
  rw [← Nat.pow_two, ← Nat.pow_mul] at h1
  have := pow_dvd_one (h1.trans e1.symm) (k := n - 1) (by
   obtain ⟨c, hc⟩ : 2 ^ (i + 1) ∣ 2 ^ t := Nat.pow_dvd_pow 2 (by omega)
   refine ⟨c, ?_⟩
   rw [hn, hc, Nat.pow_succ]
   grind)
  rw [this, e1]
def Sig (p o k a : Nat) : Prop := a ^ (2 ^ k * o) % p = 1 ∧ (k = 0 ∨ a ^ (2 ^ (k - 1) * o) % p = p - 1)
theorem neg_mod {x n p : Nat} (h2 : 2 ≤ n) (hp : 2 ≤ p) (hd : p ∣ n) (h : x % n = n - 1) : x % p = p - 1 := by
 have h1 : (x + 1) % n = 0 := by
  rw [Nat.add_mod, h, Nat.mod_eq_of_lt (show 1 < n by omega), show n - 1 + 1 = n by omega, Nat.mod_self]
 have h3 : p ∣ x + 1 := Nat.dvd_trans hd (Nat.dvd_of_mod_eq_zero h1)
 obtain ⟨c, hc⟩ := h3
 have hc0 : c ≠ 0 := by rintro rfl; omega
 obtain ⟨e, rfl⟩ : ∃ e, c = e + 1 := ⟨c - 1, by omega⟩
 have : x = (p - 1) + p * e := by rw [Nat.mul_add, Nat.mul_one] at hc; omega
 rw [this, Nat.add_mul_mod_self_left]
 exact Nat.mod_eq_of_lt (by omega)
theorem sp_sig {n t d a : Nat} (h2 : 3 ≤ n) (hdo : d % 2 = 1) (h : SP n t d a) :
 ∃ j, ∀ p o k, 3 ≤ p → p ∣ n → o % 2 = 1 → Sig p o k a → k = j := by
 have odd_mul : ∀ x y : Nat, x % 2 = 1 → y % 2 = 1 → (x * y) % 2 = 1 := by
  intro x y hx hy; rw [Nat.mul_mod, hx, hy]
 rcases h with h | ⟨i, hi, h⟩
 ·refine ⟨0, fun p o k hp hd ho hs => ?_⟩
  rcases hs.2 with h0 | h0
  ·exact h0
  ·exfalso
   have h1 := neg_pow_odd (by omega) h0 hdo
   rw [← Nat.pow_mul, show 2 ^ (k - 1) * o * d = d * (2 ^ (k - 1) * o) by rw [Nat.mul_comm]] at h1
   have h3 : a ^ d % p = 1 % p := mod_trans (h.trans (Nat.mod_eq_of_lt (by omega)).symm) hd
   rw [pow_one_mul h3, Nat.mod_eq_of_lt (by omega)] at h1
   omega
 ·refine ⟨i + 1, fun p o k hp hd ho hs => ?_⟩
  have hm : a ^ (2 ^ i * d) % p = p - 1 := neg_mod (by omega) (by omega) hd h
  have e1 : 1 % p = 1 := Nat.mod_eq_of_lt (by omega)
  by_cases hle : k ≤ i
  ·exfalso
   have h1 := neg_pow_odd (by omega) hm ho
   rw [← Nat.pow_mul] at h1
   obtain ⟨c, hc⟩ : 2 ^ k ∣ 2 ^ i := Nat.pow_dvd_pow 2 hle
   have h4 : a ^ (2 ^ i * d * o) % p = 1 % p :=
    pow_dvd_one (hs.1.trans e1.symm) ⟨c * d, by rw [hc]; grind⟩
   omega
  ·by_cases hk : k = i + 1
   ·exact hk
   ·exfalso
    rcases hs.2 with h0 | h0
    ·omega
    ·have h1 := neg_pow_odd (by omega) h0 hdo
     rw [← Nat.pow_mul] at h1
     have h5 := neg_sq (by omega) hm
     rw [← Nat.pow_two, ← Nat.pow_mul] at h5
     obtain ⟨c, hc⟩ : 2 ^ (i + 1) ∣ 2 ^ (k - 1) := Nat.pow_dvd_pow 2 (by omega)
     have h4 : a ^ (2 ^ (k - 1) * o * d) % p = 1 % p :=
      pow_dvd_one (h5.trans e1.symm) ⟨c * o, by rw [hc, Nat.pow_succ]; grind⟩
     omega
theorem cofactor {r q a : Nat} (hr : 1 ≤ r) (hq : Pr q) (hqa : ¬ q ∣ a) (h : a ^ (r * q - 1) % q = 1) : a ^ (r - 1) % q = 1 := by
 have h2 := hq.1
 have e1 : 1 % q = 1 := Nat.mod_eq_of_lt (by omega)
 have e : r * q - 1 = (q - 1) * r + (r - 1) := by
  obtain ⟨s, rfl⟩ : ∃ s, q = s + 1 := ⟨q - 1, by omega⟩
  rw [Nat.mul_add, Nat.add_sub_cancel, Nat.mul_one, Nat.mul_comm s r]; omega
 rw [e, Nat.pow_add, mul_mod_one (pow_one_mul ((fermat1 hq hqa).trans e1.symm))] at h
 exact h
theorem no_square {n r a : Nat} (hn : 2 ≤ n) (hr : Pr r) (hra : ¬ r ∣ a) (hd : r * r ∣ n) (h : a ^ (n - 1) % n = 1) : a ^ (r - 1) % (r * r) = 1 := by
 have h2 := hr.1
 have hrr : 4 ≤ r * r := Nat.mul_le_mul h2 h2
 have e1 : 1 % (r * r) = 1 := Nat.mod_eq_of_lt (by omega)
 have hf : a ^ (n - 1) % (r * r) = 1 % (r * r) := mod_trans (h.trans (Nat.mod_eq_of_lt (by omega)).symm) hd
 -- a^(r*(r-1)) = 1 mod r*r
 have hg : a ^ ((r - 1) * r) % (r * r) = 1 % (r * r) := by
  have h1 := fermat1 hr hra
  obtain ⟨c, hc⟩ : ∃ c, a ^ (r - 1) = c * r + 1 := ⟨a ^ (r - 1) / r, by have := Nat.div_add_mod (a ^ (r - 1)) r; rw [h1] at this; rw [Nat.mul_comm]; omega⟩
  rw [Nat.pow_mul, hc, binom]
  have hb : ∀ m, 1 ≤ m → m ≤ r → bs r (c * r) m % (r * r) = 1 % (r * r) := by
   intro m hm1 hm2
   induction m with
   | zero => omega
   | succ m ih =>
    show (bs r (c * r) m + ch r m * (c * r) ^ m) % (r * r) = _
    cases m with
    | zero => have : ch r 0 = 1 := by cases r <;> rfl
              show (0 + ch r 0 * (c * r) ^ 0) % (r * r) = _
              rw [this]; rfl
    | succ m =>
     obtain ⟨e, he⟩ := pr_dvd_ch hr (k := m + 1) (by omega) (by omega)
     have : ch r (m + 1) * (c * r) ^ (m + 1) = r * r * (e * ((c * r) ^ m * c)) := by rw [he, Nat.pow_succ]; grind
     rw [this, Nat.add_mul_mod_self_left]
     exact ih (by omega) (by omega)
  show (bs r (c * r) r + ch r r * (c * r) ^ r) % (r * r) = _
  have : ch r r * (c * r) ^ r = r * r * (c ^ r * r ^ (r - 2)) := by
   rw [ch_self, Nat.one_mul, Nat.mul_pow]
   have : r ^ r = r * r * r ^ (r - 2) := by
    rw [← Nat.pow_two, ← Nat.pow_add]; congr 1; omega
   rw [this]; grind
  rw [this, Nat.add_mul_mod_self_left]
  exact hb r (by omega) (Nat.le_refl r)
 have hgc := pow_gcd hf hg
 have hcop : Nat.Coprime (n - 1) r := by
  have : Nat.Coprime r (n - 1) := by
   apply hr.coprime
   intro hc
   have hrn : r ∣ n := Nat.dvd_trans ⟨r, rfl⟩ hd
   have := Nat.dvd_sub hrn hc
   rw [show n - (n - 1) = 1 by omega] at this
   have := Nat.le_of_dvd (by omega) this
   omega
  exact this.symm
 have hdv : Nat.gcd (n - 1) ((r - 1) * r) ∣ r - 1 := by
  have h3 : Nat.Coprime (Nat.gcd (n - 1) ((r - 1) * r)) r := Nat.Coprime.coprime_dvd_left (Nat.gcd_dvd_left _ _) hcop
  exact h3.dvd_of_dvd_mul_right (Nat.gcd_dvd_right _ _)
 rw [pow_dvd_one hgc hdv, e1]
def four (p m : Nat) : Prop := 2 ^ m % p = 1 ∧ 3 ^ m % p = 1 ∧ 5 ^ m % p = 1 ∧ 7 ^ m % p = 1
theorem four_gcd {p m k : Nat} (h2 : 2 ≤ p) (h : four p m) (h' : four p k) : four p (Nat.gcd m k) := by
 have e1 : 1 % p = 1 := Nat.mod_eq_of_lt (by omega)
 obtain ⟨a, b, c, d⟩ := h
 obtain ⟨a', b', c', d'⟩ := h'
 have key : ∀ x, x ^ m % p = 1 → x ^ k % p = 1 → x ^ (Nat.gcd m k) % p = 1 := by
  intro x h1 h2
  rw [pow_gcd (h1.trans e1.symm) (h2.trans e1.symm), e1]
 exact ⟨key 2 a a', key 3 b b', key 5 c c', key 7 d d'⟩
theorem four_dvd {p L m : Nat} (h2 : 2 ≤ p) (hL : four p L) (hmin : ∀ g, g ∣ L → four p g → g = L) (h : four p m) : L ∣ m := by
 have h1 := four_gcd h2 h hL
 have := hmin _ (Nat.gcd_dvd_right m L) h1
 exact this ▸ Nat.gcd_dvd_left m L
end Go.Proofs.YtelkokcnedbmeaaGreat.Num
