/-
  Parts of the proof of TopCorrelate: NumC.
-/
import Derived.Test.YtelkokcnedbmeaaGreatT22
namespace Go.Proofs.YtelkokcnedbmeaaGreat.Num
set_option maxRecDepth 20000
def pwm (m : Nat) : Nat → Nat → Nat → Nat → Nat
 | 0, _, _, r => r
 | f + 1, a, e, r => pwm m f (a * a % m) (e / 2) (bif Nat.beq (e % 2) 1 then r * a % m else r)
def pm (m a e : Nat) : Nat := pwm m 32 a e (1 % m)
def pms (m a e : Nat) : Nat := pwm m 14 a e (1 % m)
theorem pwm_eq {m f a e r : Nat} (he : e < 2 ^ f) (hr : r = r % m) : pwm m f a e r = r * a ^ e % m := by
 induction f generalizing a e r with
 | zero =>
  have : e = 0 := by have : (2:Nat) ^ 0 = 1 := rfl; omega
  subst this
  rw [Nat.pow_zero, Nat.mul_one]; exact hr
 | succ f ih =>
  show pwm m f (a * a % m) (e / 2) (bif Nat.beq (e % 2) 1 then r * a % m else r) = _
  have hlt : e / 2 < 2 ^ f := by rw [Nat.pow_succ] at he; omega
  have hsq : ∀ x, x * (a * a % m) ^ (e / 2) % m = x * a ^ (2 * (e / 2)) % m := by
   intro x
   rw [Nat.mul_mod, Nat.pow_mod, Nat.mod_mod, ← Nat.pow_mod, ← Nat.mul_mod, Nat.pow_mul, Nat.pow_two]
  by_cases h1 : e % 2 = 1
  ·have hb : Nat.beq (e % 2) 1 = true := by rw [h1]; rfl
   rw [hb, cond_true, ih hlt (Nat.mod_mod _ _).symm, hsq, Nat.mul_mod, Nat.mod_mod, ← Nat.mul_mod]
   rw [show r * a ^ e = r * a * a ^ (2 * (e / 2)) by
    have : e = 2 * (e / 2) + 1 := by omega
    rw [Nat.mul_assoc]; congr 1
    rw [Nat.mul_comm a, ← Nat.pow_succ]
    exact congrArg (a ^ ·) this]
  ·have hb : Nat.beq (e % 2) 1 = false := by
    have : e % 2 = 0 := by omega
    rw [this]; rfl
   rw [hb, cond_false, ih hlt hr, hsq]
   rw [show e = 2 * (e / 2) by omega]
   congr 4; omega
theorem pm_eq {m a e : Nat} (he : e < 2 ^ 32) : pm m a e = a ^ e % m := by
 unfold pm
 rw [pwm_eq he (Nat.mod_mod _ _).symm, Nat.mul_mod, Nat.mod_mod, ← Nat.mul_mod, Nat.one_mul]
theorem pms_eq {m a e : Nat} (he : e < 2 ^ 14) : pms m a e = a ^ e % m := by
 unfold pms
 rw [pwm_eq he (Nat.mod_mod _ _).symm, Nat.mul_mod, Nat.mod_mod, ← Nat.mul_mod, Nat.one_mul]
def oddp : Nat → Nat → Nat
 | 0, m => m
 | f + 1, m => bif Nat.beq (m % 2) 0 then oddp f (m / 2) else m
def twos : Nat → Nat → Nat
 | 0, _ => 0
 | f + 1, m => bif Nat.beq (m % 2) 0 then twos f (m / 2) + 1 else 0
theorem beq_iff {a b : Nat} : Nat.beq a b = true ↔ a = b := ⟨Nat.eq_of_beq_eq_true, fun h => by subst h; exact Nat.beq_refl a⟩
theorem beq_false_iff {a b : Nat} : Nat.beq a b = false ↔ a ≠ b := by
 cases h : Nat.beq a b
 ·constructor
  ·intro _ e; rw [beq_iff.2 e] at h; exact Bool.noConfusion h
  ·intro _; rfl
 ·constructor
  ·intro e; exact Bool.noConfusion e
  ·intro e; exact absurd (beq_iff.1 h) e
theorem split_eq (f m : Nat) : 2 ^ (twos f m) * oddp f m = m := by
 induction f generalizing m with
 | zero => show 2 ^ 0 * m = m; rw [Nat.pow_zero, Nat.one_mul]
 | succ f ih =>
  unfold twos oddp
  cases h : Nat.beq (m % 2) 0
  ·simp only [cond_false, Nat.pow_zero, Nat.one_mul]
  ·simp only [cond_true]
   have := beq_iff.1 h
   rw [Nat.pow_succ, Nat.mul_assoc, Nat.mul_comm 2, ← Nat.mul_assoc, ih]; omega
theorem oddp_odd {f m : Nat} (h0 : 0 < m) (h : m < 2 ^ f) : oddp f m % 2 = 1 := by
 induction f generalizing m with
 | zero => have : (2:Nat) ^ 0 = 1 := rfl; omega
 | succ f ih =>
  unfold oddp
  cases hb : Nat.beq (m % 2) 0
  ·simp only [cond_false]
   have := beq_false_iff.1 hb
   omega
  ·simp only [cond_true]
   have := beq_iff.1 hb
   rw [Nat.pow_succ] at h
   exact ih (by omega) (by omega)
def sq (n : Nat) : Nat → Nat → Bool
 | 0, _ => false
 | t + 1, x => bif Nat.beq x (n - 1) then true else sq n t (x * x % n)
def stB (n t d a : Nat) : Bool := bif Nat.beq (pm n a d) 1 then true else sq n t (pm n a d)
theorem sq_iff {n t x : Nat} (hx : x % n = x) : sq n t x = true ↔ ∃ i, i < t ∧ x ^ (2 ^ i) % n = n - 1 := by
 induction t generalizing x with
 | zero => constructor
           ·intro h; exact Bool.noConfusion h
           ·rintro ⟨i, hi, _⟩; omega
 | succ t ih =>
  unfold sq
  cases hb : Nat.beq x (n - 1)
  ·have hne := beq_false_iff.1 hb
   rw [cond_false, ih (Nat.mod_mod _ _)]
   constructor
   ·rintro ⟨i, hi, h⟩
    refine ⟨i + 1, by omega, ?_⟩
    rw [← Nat.pow_mod, ← Nat.pow_two, ← Nat.pow_mul] at h
    rw [Nat.pow_succ, Nat.mul_comm]; exact h
   ·rintro ⟨i, hi, h⟩
    cases i with
    | zero => rw [Nat.pow_zero, Nat.pow_one, hx] at h; exact absurd h hne
    | succ i =>
     refine ⟨i, by omega, ?_⟩
     rw [← Nat.pow_mod, ← Nat.pow_two, ← Nat.pow_mul]
     rw [Nat.pow_succ, Nat.mul_comm] at h; exact h
  ·simp only [cond_true, true_iff]
   refine ⟨0, by omega, ?_⟩
   rw [Nat.pow_zero, Nat.pow_one, hx]; exact beq_iff.1 hb
theorem stB_iff {n t d a : Nat} (hd : d < 2 ^ 32) : stB n t d a = true ↔ SP n t d a := by
 unfold stB SP
 rw [pm_eq hd]
 have hs := sq_iff (n := n) (t := t) (x := a ^ d % n) (Nat.mod_mod _ _)
 have e : ∀ i, (a ^ d % n) ^ (2 ^ i) % n = a ^ (2 ^ i * d) % n := by
  intro i; rw [← Nat.pow_mod, ← Nat.pow_mul, Nat.mul_comm]
 simp only [e] at hs
 cases hb : Nat.beq (a ^ d % n) 1
 ·have := beq_false_iff.1 hb
  rw [cond_false, hs]
  constructor
  ·exact Or.inr
  ·rintro (h | h)
   ·exact absurd h this
   ·exact h
 ·simp only [cond_true, true_iff]
  exact Or.inl (beq_iff.1 hb)
def passes (n : Nat) : Bool := stB n (twos 32 (n - 1)) (oddp 32 (n - 1)) 2 && stB n (twos 32 (n - 1)) (oddp 32 (n - 1)) 3 && stB n (twos 32 (n - 1)) (oddp 32 (n - 1)) 5 && stB n (twos 32 (n - 1)) (oddp 32 (n - 1)) 7
theorem oddp_le (f m : Nat) : oddp f m ≤ m := by
 have := split_eq f m
 have h1 : 0 < 2 ^ (twos f m) := Nat.pow_pos (by omega)
 calc oddp f m = 1 * oddp f m := (Nat.one_mul _).symm
  _ ≤ 2 ^ (twos f m) * oddp f m := Nat.mul_le_mul_right _ h1
  _ = m := this
theorem passes_sp {n : Nat} (h : n < 2 ^ 32) (hp : passes n = true) :
 SP n (twos 32 (n - 1)) (oddp 32 (n - 1)) 2 ∧ SP n (twos 32 (n - 1)) (oddp 32 (n - 1)) 3 ∧ SP n (twos 32 (n - 1)) (oddp 32 (n - 1)) 5 ∧ SP n (twos 32 (n - 1)) (oddp 32 (n - 1)) 7 := by
 have hd : oddp 32 (n - 1) < 2 ^ 32 := by have := oddp_le 32 (n - 1); omega
 unfold passes at hp
 simp only [Bool.and_eq_true] at hp
 obtain ⟨⟨⟨a, b⟩, c⟩, d⟩ := hp
 exact ⟨(stB_iff hd).1 a, (stB_iff hd).1 b, (stB_iff hd).1 c, (stB_iff hd).1 d⟩
def fourb (p m : Nat) : Bool := Nat.beq (pms p 2 m) 1 && Nat.beq (pms p 3 m) 1 && Nat.beq (pms p 5 m) 1 && Nat.beq (pms p 7 m) 1
theorem fourb_iff {p m : Nat} (h : m < 2 ^ 14) : fourb p m = true ↔ four p m := by
 unfold fourb four
 rw [pms_eq h, pms_eq h, pms_eq h, pms_eq h]
 simp only [Bool.and_eq_true, beq_iff, and_assoc]
def divs (p L : Nat) : Nat → Bool
 | 0 => true
 | f + 1 => (bif Nat.beq (L % (f + 1)) 0 then (Nat.beq (f + 1) L || !fourb p (f + 1)) && (Nat.beq f 0 || !fourb p (L / (f + 1))) else true) && divs p L f
theorem divs_at {p L F f : Nat} (h : divs p L F = true) (h1 : 1 ≤ f) (hf : f ≤ F) (hd : f ∣ L) :
 (f = L ∨ fourb p f = false) ∧ (f = 1 ∨ fourb p (L / f) = false) := by
 induction F with
 | zero => omega
 | succ F ih =>
  unfold divs at h
  rw [Bool.and_eq_true] at h
  by_cases he : f = F + 1
  ·subst he
   rw [beq_iff.2 (Nat.mod_eq_zero_of_dvd hd), cond_true] at h
   have h2 := h.1
   simp only [Bool.and_eq_true, Bool.or_eq_true, Bool.not_eq_true', beq_iff] at h2
   exact ⟨h2.1, by rcases h2.2 with h3 | h3; exact Or.inl (by omega); exact Or.inr h3⟩
  ·exact ih h.2 (by omega)
def ordOk (p L : Nat) : Bool := fourb p L && Nat.ble 1 L && Nat.ble L 13500 && divs p L 117
theorem ordOk_dvd {p L m : Nat} (h2 : 2 ≤ p) (h : ordOk p L = true) (hm : four p m) : L ∣ m := by
 unfold ordOk at h
 simp only [Bool.and_eq_true, Nat.ble_eq] at h
 obtain ⟨⟨⟨h4, h1⟩, hl⟩, hd⟩ := h
 refine four_dvd h2 ((fourb_iff (by omega)).1 h4) ?_ hm
 intro g hg h4g
 have hgL := Nat.le_of_dvd (by omega) hg
 have hg0 : 0 < g := by rcases Nat.eq_zero_or_pos g with rfl | h0; have := Nat.eq_zero_of_zero_dvd hg; omega; exact h0
 have hgb := (fourb_iff (p := p) (m := g) (by omega)).2 h4g
 by_cases hle : g ≤ 117
 ·rcases (divs_at hd hg0 hle hg).1 with h5 | h5
  ·exact h5
  ·rw [hgb] at h5; exact Bool.noConfusion h5
 ·obtain ⟨c, hc⟩ := hg
  have hc0 : 0 < c := by rcases Nat.eq_zero_or_pos c with rfl | h0; omega; exact h0
  have hc117 : c ≤ 117 := by
   apply Classical.byContradiction
   intro hn
   have := Nat.mul_le_mul (show 118 ≤ g by omega) (show 118 ≤ c by omega)
   omega
  rcases (divs_at hd hc0 hc117 ⟨g, by rw [hc, Nat.mul_comm]⟩).2 with h5 | h5
  ·subst h5; omega
  ·have : L / c = g := by rw [hc]; exact Nat.mul_div_cancel g hc0
   rw [this, hgb] at h5; exact Bool.noConfusion h5
def sigOk (p o k a : Nat) : Bool := Nat.beq (pms p a (2 ^ k * o)) 1 && (Nat.beq k 0 || Nat.beq (pms p a (2 ^ (k - 1) * o)) (p - 1))
theorem sigOk_sig {p o k a : Nat} (h : 2 ^ k * o < 2 ^ 14) (hs : sigOk p o k a = true) : Sig p o k a := by
 have hle : 2 ^ (k - 1) * o ≤ 2 ^ k * o := Nat.mul_le_mul_right _ (Nat.pow_le_pow_right (by omega) (by omega))
 unfold sigOk at hs
 rw [pms_eq h, pms_eq (by omega)] at hs
 simp only [Bool.and_eq_true, Bool.or_eq_true, beq_iff] at hs
 exact hs
def entOk (p L c : Nat) : Bool :=
 ordOk p L && Nat.beq (oddp 20 (p - 1) % 2) 1 && Nat.ble (2 ^ (c % 32) * oddp 20 (p - 1)) 16000 && Nat.ble (2 ^ (c / 32 % 32) * oddp 20 (p - 1)) 16000 && Nat.ble (2 ^ (c / 1024 % 32) * oddp 20 (p - 1)) 16000 && Nat.ble (2 ^ (c / 32768) * oddp 20 (p - 1)) 16000
  && sigOk p (oddp 20 (p - 1)) (c % 32) 2 && sigOk p (oddp 20 (p - 1)) (c / 32 % 32) 3 && sigOk p (oddp 20 (p - 1)) (c / 1024 % 32) 5 && sigOk p (oddp 20 (p - 1)) (c / 32768) 7
structure Ent (p L c : Nat) : Prop where
 odd : oddp 20 (p - 1) % 2 = 1
 s2 : Sig p (oddp 20 (p - 1)) (c % 32) 2
 s3 : Sig p (oddp 20 (p - 1)) (c / 32 % 32) 3
 s5 : Sig p (oddp 20 (p - 1)) (c / 1024 % 32) 5
 s7 : Sig p (oddp 20 (p - 1)) (c / 32768) 7
theorem entOk_ent {p L c : Nat} (h : entOk p L c = true) : Ent p L c ∧ ordOk p L = true := by
 unfold entOk at h
 simp only [Bool.and_eq_true, Nat.ble_eq, beq_iff] at h
 obtain ⟨⟨⟨⟨⟨⟨⟨⟨⟨h1, h2⟩, a⟩, b⟩, c'⟩, d⟩, e⟩, f⟩, g⟩, i⟩ := h
 exact ⟨⟨h2, sigOk_sig (by omega) e, sigOk_sig (by omega) f, sigOk_sig (by omega) g, sigOk_sig (by omega) i⟩, h1⟩
theorem ent_same {n p q L M c c' : Nat} (h3 : 3 ≤ n) (h : n < 2 ^ 32) (hp : passes n = true) (hp3 : 3 ≤ p) (hq3 : 3 ≤ q) (hpn : p ∣ n) (hqn : q ∣ n)
 (e : Ent p L c) (e' : Ent q M c') : c = c' := by
 obtain ⟨a, b, d, f⟩ := passes_sp h hp
 have hodd : oddp 32 (n - 1) % 2 = 1 := oddp_odd (by omega) (by omega)
 obtain ⟨j2, h2⟩ := sp_sig h3 hodd a
 obtain ⟨j3, h3'⟩ := sp_sig h3 hodd b
 obtain ⟨j5, h5⟩ := sp_sig h3 hodd d
 obtain ⟨j7, h7⟩ := sp_sig h3 hodd f
 have x2 := (h2 _ _ _ hp3 hpn e.odd e.s2).trans (h2 _ _ _ hq3 hqn e'.odd e'.s2).symm
 have x3 := (h3' _ _ _ hp3 hpn e.odd e.s3).trans (h3' _ _ _ hq3 hqn e'.odd e'.s3).symm
 have x5 := (h5 _ _ _ hp3 hpn e.odd e.s5).trans (h5 _ _ _ hq3 hqn e'.odd e'.s5).symm
 have x7 := (h7 _ _ _ hp3 hpn e.odd e.s7).trans (h7 _ _ _ hq3 hqn e'.odd e'.s7).symm
 omega
theorem passes_four {n : Nat} (h3 : 3 ≤ n) (h : n < 2 ^ 32) (hp : passes n = true) : four n (n - 1) := by
 obtain ⟨a, b, d, f⟩ := passes_sp h hp
 have hn := (split_eq 32 (n - 1)).symm
 exact ⟨sp_fermat h3 hn a, sp_fermat h3 hn b, sp_fermat h3 hn d, sp_fermat h3 hn f⟩
theorem four_of_dvd {n p m : Nat} (h2 : 2 ≤ n) (hp2 : 2 ≤ p) (hd : p ∣ n) (h : four n m) : four p m := by
 have e1 : 1 % p = 1 := Nat.mod_eq_of_lt (by omega)
 have e2 : 1 % n = 1 := Nat.mod_eq_of_lt (by omega)
 have key : ∀ x, x ^ m % n = 1 → x ^ m % p = 1 := fun x hx => (mod_trans (hx.trans e2.symm) hd).trans e1
 exact ⟨key 2 h.1, key 3 h.2.1, key 5 h.2.2.1, key 7 h.2.2.2⟩
def inv (m : Nat) : Nat → Nat → Nat → Nat → Nat → Nat
 | 0, _, _, t0, _ => t0
 | f + 1, r0, r1, t0, t1 => bif Nat.beq r1 0 then t0 else inv m f r1 (r0 % r1) t1 ((t0 + (m - (r0 / r1) * t1 % m)) % m)
def cand (D M : Nat) : Nat → Nat → Bool
 | 0, _ => false
 | f + 1, s => bif Nat.ble (D * s) 2000000000 then !passes (D * s) && cand D M f (s + M) else true
theorem cand_at {D M f s j : Nat} (h : cand D M f s = true) (hle : D * (s + j * M) ≤ 2000000000) : passes (D * (s + j * M)) = false := by
 induction f generalizing s j with
 | zero => exact Bool.noConfusion h
 | succ f ih =>
  unfold cand at h
  have hs : D * s ≤ 2000000000 := Nat.le_trans (Nat.mul_le_mul_left D (Nat.le_add_right s (j * M))) hle
  rw [(Nat.ble_eq ▸ hs : Nat.ble (D * s) 2000000000 = true), cond_true, Bool.and_eq_true] at h
  cases j with
  | zero => rw [Nat.zero_mul, Nat.add_zero]; have := h.1; simpa using this
  | succ j =>
   have e : s + (j + 1) * M = s + M + j * M := by rw [Nat.succ_mul]; omega
   rw [e] at hle ⊢
   exact ih h.2 hle
def pairB (D M s0 : Nat) : Bool := Nat.beq (D * s0 % M) (1 % M) && Nat.blt s0 M && cand D M 2000 s0
def pairA (D M : Nat) : Bool := bif Nat.beq (Nat.gcd D M) 1 then pairB D M (bif Nat.beq M 1 then 0 else inv M 40 M (D % M) 0 1) else true
def pairOk (r L c q M d : Nat) : Bool := bif Nat.beq c d then pairA (r * q) (Nat.lcm L M) else true
theorem pairA_at {D M s : Nat} (h : pairA D M = true) (hs : D * s ≤ 2000000000) (h1 : 1 ≤ D * s) (hd : M ∣ D * s - 1) : passes (D * s) = false := by
 unfold pairA at h
 have hg : Nat.gcd D M = 1 := by
  have a1 : Nat.gcd D M ∣ D * s := Nat.dvd_trans (Nat.gcd_dvd_left D M) ⟨s, rfl⟩
  have a2 : Nat.gcd D M ∣ D * s - 1 := Nat.dvd_trans (Nat.gcd_dvd_right D M) hd
  have := Nat.dvd_sub a1 a2
  rw [show D * s - (D * s - 1) = 1 by omega] at this
  exact Nat.eq_one_of_dvd_one this
 rw [beq_iff.2 hg, cond_true] at h
 generalize (bif Nat.beq M 1 then 0 else inv M 40 M (D % M) 0 1) = s0 at h
 unfold pairB at h
 simp only [Bool.and_eq_true, beq_iff, Nat.blt_eq] at h
 obtain ⟨⟨h0, hlt⟩, hc⟩ := h
 have hs1 : D * s % M = 1 % M := mod_of_dvd_sub h1 hd
 have hss : s % M = s0 % M := by
  have a1 : (s0 * (D * s)) % M = s0 % M := by rw [Nat.mul_mod, hs1, ← Nat.mul_mod, Nat.mul_one]
  have a2 : (s0 * (D * s)) % M = s % M := by
   rw [show s0 * (D * s) = D * s0 * s by grind, mul_mod_one h0]
  rw [← a2, a1]
 rw [Nat.mod_eq_of_lt hlt] at hss
 have e : s = s0 + s / M * M := by rw [← hss, Nat.mul_comm]; exact (Nat.mod_add_div s M).symm
 rw [e] at hs ⊢
 exact cand_at hc hs
def inner (q M d : Nat) : List (Nat × Nat × Nat) → Bool
 | [] => true
 |(r, L, c) :: t => bif Nat.ble q r || Nat.blt 2000000000 (r * q * q) then true else pairOk r L c q M d && inner q M d t
def asc : Nat → List (Nat × Nat × Nat) → Bool
 | _, [] => true
 | x, (r, _, _) :: t => Nat.blt x r && asc r t
theorem asc_at {x : Nat} {l : List (Nat × Nat × Nat)} (h : asc x l = true) : ∀ e ∈ l, x < e.1 := by
 induction l generalizing x with
 | nil => intro e he; exact absurd he (List.not_mem_nil)
 | cons y t ih =>
  obtain ⟨r, L, c⟩ := y
  unfold asc at h
  rw [Bool.and_eq_true, Nat.blt_eq] at h
  intro e he
  rcases List.mem_cons.1 he with rfl | he
  ·exact h.1
  ·have := ih h.2 e he; omega
theorem inner_at {q M d x : Nat} {l : List (Nat × Nat × Nat)} (ha : asc x l = true) (h : inner q M d l = true) {r L c : Nat} (he : (r, L, c) ∈ l) (hr : r < q) (hq : r * q * q ≤ 2000000000) : pairOk r L c q M d = true := by
 induction l generalizing x with
 | nil => exact absurd he (List.not_mem_nil)
 | cons y t ih =>
  obtain ⟨r', L', c'⟩ := y
  unfold asc at ha
  rw [Bool.and_eq_true, Nat.blt_eq] at ha
  unfold inner at h
  have hle : r' ≤ r := by
   rcases List.mem_cons.1 he with h1 | h1
   ·injection h1 with h1; omega
   ·have := asc_at ha.2 _ h1; exact Nat.le_of_lt this
  have b1 : Nat.ble q r' = false := by
   cases hb : Nat.ble q r'
   ·rfl
   ·rw [Nat.ble_eq] at hb; omega
  have b2 : Nat.blt 2000000000 (r' * q * q) = false := by
   cases hb : Nat.blt 2000000000 (r' * q * q)
   ·rfl
   ·have h1 := hb; rw [Nat.blt_eq] at h1
    have : r' * q * q ≤ r * q * q := Nat.mul_le_mul_right _ (Nat.mul_le_mul_right _ hle)
    omega
  rw [b1, b2, Bool.or_self, cond_false, Bool.and_eq_true] at h
  rcases List.mem_cons.1 he with h1 | h1
  ·injection h1 with h1 h2; injection h2 with h2 h3; subst h1 h2 h3; exact h.1
  ·exact ih ha.2 h.2 h1
def gq (r : Nat) : Nat := Nat.gcd (Nat.gcd (Nat.gcd (2 ^ (r - 1) - 1) (3 ^ (r - 1) - 1)) (5 ^ (r - 1) - 1)) (7 ^ (r - 1) - 1)
theorem dvd_gq {r q : Nat} (h : four q (r - 1)) : q ∣ gq r := by
 have key : ∀ a, 0 < a → a ^ (r - 1) % q = 1 → q ∣ a ^ (r - 1) - 1 := by
  intro a ha h1
  apply dvd_sub_of_mod
  by_cases hq : q = 1
  ·subst hq; rw [Nat.mod_one, Nat.mod_one]
  ·by_cases hq0 : q = 0
   ·subst hq0; rw [Nat.mod_zero] at h1; rw [h1]
   ·rw [h1]; exact (Nat.mod_eq_of_lt (by omega)).symm
 exact Nat.dvd_gcd (Nat.dvd_gcd (Nat.dvd_gcd (key 2 (by omega) h.1) (key 3 (by omega) h.2.1)) (key 5 (by omega) h.2.2.1)) (key 7 (by omega) h.2.2.2)
def tr (q : Nat) : Nat → Bool
 | 0 => true
 | f + 1 => !Nat.beq (q % (f + 2)) 0 && tr q f
theorem tr_at {q F d : Nat} (h : tr q F = true) (h2 : 2 ≤ d) (hd : d ≤ F + 1) : ¬ d ∣ q := by
 induction F with
 | zero => omega
 | succ F ih =>
  unfold tr at h
  rw [Bool.and_eq_true, Bool.not_eq_true', beq_false_iff] at h
  by_cases he : d = F + 2
  ·subst he; intro hd; exact h.1 (Nat.mod_eq_zero_of_dvd hd)
  ·exact ih h.2 (by omega)
def exOk (r q : Nat) : Bool := Nat.ble 2 q && Nat.blt q 250000 && tr q 499 && (Nat.blt 2000000000 (r * q) || !passes (r * q))
def mulAll : List Nat → Nat
 | [] => 1
 | x :: t => x * mulAll t
def semiB (P r G : Nat) (l : List Nat) : Bool := Nat.beq ((P % G) ^ 6 * mulAll l % G) 0 && l.all (exOk r)
def semi1 (P r : Nat) (l : List Nat) : Bool := semiB P r (gq r) l
theorem Pr.dvd_mulAll {q : Nat} (hq : Pr q) {l : List Nat} (h : q ∣ mulAll l) : ∃ x ∈ l, q ∣ x := by
 induction l with
 | nil => have h1 := Nat.le_of_dvd (by decide) h; have h2 := hq.1; have : mulAll [] = 1 := rfl; omega
 | cons x t ih =>
  rcases hq.dvd_mul h with h | h
  ·exact ⟨x, List.mem_cons_self, h⟩
  ·obtain ⟨y, h1, h2⟩ := ih h; exact ⟨y, List.mem_cons_of_mem _ h1, h2⟩
theorem semi1_at {P r q : Nat} {l : List Nat} (h : semi1 P r l = true) (hq : Pr q) (hrq : r < q) (hP : ∀ x, Pr x → x ∣ P → x ≤ r) (h4 : four q (r - 1)) (hle : r * q ≤ 2000000000) : passes (r * q) = false := by
 unfold semi1 semiB at h
 rw [Bool.and_eq_true, beq_iff, List.all_eq_true] at h
 have hG := dvd_gq h4
 have h1 : q ∣ (P % gq r) ^ 6 * mulAll l := Nat.dvd_trans hG (Nat.dvd_of_mod_eq_zero h.1)
 rcases hq.dvd_mul h1 with h2 | h2
 ·exfalso
  have h3 := hq.dvd_pow h2
  have : q ∣ P := (Nat.dvd_mod_iff hG).1 h3
  have := hP q hq this
  omega
 ·obtain ⟨x, hx, hqx⟩ := hq.dvd_mulAll h2
  have hex := h.2 x hx
  unfold exOk at hex
  simp only [Bool.and_eq_true, Bool.or_eq_true, Nat.ble_eq, Nat.blt_eq, Bool.not_eq_true'] at hex
  obtain ⟨⟨⟨e1, e2⟩, e3⟩, e4⟩ := hex
  have hprx : Pr x := pr_trial e1 (fun d hd hdd => tr_at e3 hd (by
   apply Classical.byContradiction
   intro hc
   have := Nat.mul_le_mul (show 501 ≤ d by omega) (show 501 ≤ d by omega)
   omega))
  have := hq.eq_of_dvd hprx hqx
  subst this
  rcases e4 with e4 | e4
  ·omega
  ·exact e4
end Go.Proofs.YtelkokcnedbmeaaGreat.Num
