/-
  Parts of the proof of TopCorrelate: NumD1 NumD2 NumD3 NumE NumF RingB.
-/
import Derived.Test.YtelkokcnedbmeaaGreatT24
import Derived.Test.YtelkokcnedbmeaaGreatT22
import Derived.WalkMore
namespace Go.Proofs.YtelkokcnedbmeaaGreat.Num
set_option maxRecDepth 20000
set_option maxRecDepth 100000
theorem semi_ok : semi PT 210 EX = true := by decide +kernel
theorem ascN_ok : ascN 10 PT = true := by decide +kernel
theorem noSq_ok : noSq PT = true := by decide +kernel
theorem wk_ok : wk (mulAll Q211) 44510 212 (PT.drop 43) = true := by decide +kernel
theorem sm_ok : (List.range 212).all (sm (PT.take 43)) = true := by decide +kernel
theorem asc_ok : asc 10 TT = true := by decide +kernel
theorem wkT_ok : wk (mulAll Q211) 13288 212 ((TT.map (·.1)).drop 43) = true := by decide +kernel
theorem smT_ok : (List.range 212).all (sm ((TT.map (·.1)).take 43)) = true := by decide +kernel
end Go.Proofs.YtelkokcnedbmeaaGreat.Num
namespace Go.Proofs.YtelkokcnedbmeaaGreat.Num
set_option maxRecDepth 20000
set_option maxRecDepth 100000
theorem ent_ok0 : allEnt TT0 = true := by decide +kernel
theorem ent_ok1 : allEnt TT1 = true := by decide +kernel
theorem ent_ok2 : allEnt TT2 = true := by decide +kernel
theorem ent_ok3 : allEnt TT3 = true := by decide +kernel
theorem ent_ok4 : allEnt TT4 = true := by decide +kernel
theorem ent_ok5 : allEnt TT5 = true := by decide +kernel
theorem ent_ok6 : allEnt TT6 = true := by decide +kernel
theorem ent_ok7 : allEnt TT7 = true := by decide +kernel
end Go.Proofs.YtelkokcnedbmeaaGreat.Num
namespace Go.Proofs.YtelkokcnedbmeaaGreat.Num
set_option maxRecDepth 20000
set_option maxRecDepth 100000
theorem outer_ok0 : outer TT TT0 = true := by decide +kernel
theorem outer_ok1 : outer TT TT1 = true := by decide +kernel
theorem outer_ok2 : outer TT TT2 = true := by decide +kernel
theorem outer_ok3 : outer TT TT3 = true := by decide +kernel
theorem outer_ok4 : outer TT TT4 = true := by decide +kernel
theorem outer_ok5 : outer TT TT5 = true := by decide +kernel
theorem outer_ok6 : outer TT TT6 = true := by decide +kernel
theorem outer_ok7 : outer TT TT7 = true := by decide +kernel
end Go.Proofs.YtelkokcnedbmeaaGreat.Num
namespace Go.Proofs.YtelkokcnedbmeaaGreat.Num
set_option maxRecDepth 20000
theorem pt_mem {p : Nat} (hp : Pr p) (h11 : 11 ≤ p) (h : p ≤ 44721) : p ∈ PT := mem_of_wk wk_ok sm_ok hp h11 (by omega)
theorem tt_mem {p : Nat} (hp : Pr p) (h11 : 11 ≤ p) (h : p < 13500) : ∃ L c, (p, L, c) ∈ TT := by
 have := mem_of_wk wkT_ok smT_ok hp h11 (by omega)
 obtain ⟨⟨a, L, c⟩, h1, h2⟩ := List.mem_map.1 this
 exact ⟨L, c, by rw [← h2]; exact h1⟩
theorem tt_ent {p L c : Nat} (h : (p, L, c) ∈ TT) : entOk p L c = true := by
 unfold TT at h
 simp only [List.mem_append] at h
 rcases h with h | h | h | h | h | h | h | h
 ·exact allEnt_at ent_ok0 h
 ·exact allEnt_at ent_ok1 h
 ·exact allEnt_at ent_ok2 h
 ·exact allEnt_at ent_ok3 h
 ·exact allEnt_at ent_ok4 h
 ·exact allEnt_at ent_ok5 h
 ·exact allEnt_at ent_ok6 h
 ·exact allEnt_at ent_ok7 h
theorem tt_inner {p L c : Nat} (h : (p, L, c) ∈ TT) : inner p L c TT = true := by
 have h' := h
 unfold TT at h
 simp only [List.mem_append] at h
 rcases h with h | h | h | h | h | h | h | h
 ·exact outer_at outer_ok0 h
 ·exact outer_at outer_ok1 h
 ·exact outer_at outer_ok2 h
 ·exact outer_at outer_ok3 h
 ·exact outer_at outer_ok4 h
 ·exact outer_at outer_ok5 h
 ·exact outer_at outer_ok6 h
 ·exact outer_at outer_ok7 h
theorem pr_small {a : Nat} (h : a = 2 ∨ a = 3 ∨ a = 5 ∨ a = 7) : Pr a := by
 have key : ∀ a, 2 ≤ a → a < 9 → (∀ d, d < 3 → 2 ≤ d → a % d ≠ 0) → Pr a := by
  intro a h2 h9 hd
  refine pr_trial h2 (fun d hd2 hdd hdv => ?_)
  have : d < 3 := by
   apply Classical.byContradiction
   intro hc
   have := Nat.mul_le_mul (show 3 ≤ d by omega) (show 3 ≤ d by omega)
   omega
  exact hd d this hd2 (Nat.mod_eq_zero_of_dvd hdv)
 rcases h with rfl | rfl | rfl | rfl
 ·refine pr_trial (by omega) (fun d hd2 hdd _ => ?_)
  have := Nat.mul_le_mul hd2 hd2
  omega
 ·exact key 3 (by omega) (by omega) (fun d h1 h2 => by rw [show d = 2 by omega]; decide)
 ·exact key 5 (by omega) (by omega) (fun d h1 h2 => by rw [show d = 2 by omega]; decide)
 ·exact key 7 (by omega) (by omega) (fun d h1 h2 => by rw [show d = 2 by omega]; decide)
theorem pr_ge {p : Nat} (hp : Pr p) (h2 : ¬ 2 ∣ p) (h3 : ¬ 3 ∣ p) (h5 : ¬ 5 ∣ p) (h7 : ¬ 7 ∣ p) : 11 ≤ p := by
 have := hp.1
 apply Classical.byContradiction
 intro hc
 have : p = 2 ∨ p = 3 ∨ p = 4 ∨ p = 5 ∨ p = 6 ∨ p = 7 ∨ p = 8 ∨ p = 9 ∨ p = 10 := by omega
 rcases this with rfl | rfl | rfl | rfl | rfl | rfl | rfl | rfl | rfl
 ·exact h2 (by decide)
 ·exact h3 (by decide)
 ·exact h2 (by decide)
 ·exact h5 (by decide)
 ·exact h2 (by decide)
 ·exact h7 (by decide)
 ·exact h2 (by decide)
 ·exact h3 (by decide)
 ·exact h2 (by decide)
theorem passes_pr {n : Nat} (hn2 : 2 ≤ n) (hn : n ≤ 2000000000) (h2 : ¬ 2 ∣ n) (h3 : ¬ 3 ∣ n) (h5 : ¬ 5 ∣ n) (h7 : ¬ 7 ∣ n) (hp : passes n = true) : Pr n := by
 apply Classical.byContradiction
 intro hnot
 have hn3 : 3 ≤ n := by
  apply Classical.byContradiction
  intro hc
  have : n = 2 := by omega
  exact h2 (by rw [this]; decide)
 have h4n := passes_four hn3 (by omega) hp
 have ge11 : ∀ p, Pr p → p ∣ n → 11 ≤ p := fun p hpp hd =>
  pr_ge hpp (fun h => h2 (Nat.dvd_trans h hd)) (fun h => h3 (Nat.dvd_trans h hd)) (fun h => h5 (Nat.dvd_trans h hd)) (fun h => h7 (Nat.dvd_trans h hd))
 have ndv : ∀ p a, Pr p → p ∣ n → a = 2 ∨ a = 3 ∨ a = 5 ∨ a = 7 → ¬ p ∣ a := by
  intro p a hpp hd ha hpa
  have := ge11 p hpp hd
  have := Nat.le_of_dvd (by omega) hpa
  omega
 -- no square
 have nosq : ∀ p, Pr p → ¬ p * p ∣ n := by
  intro p hpp hd
  have hpn : p ∣ n := Nat.dvd_trans ⟨p, rfl⟩ hd
  have hle := Nat.le_of_dvd (by omega) hd
  have hp1 : p ≤ 44721 := by
   apply Classical.byContradiction
   intro hc
   have := Nat.mul_le_mul (show 44722 ≤ p by omega) (show 44722 ≤ p by omega)
   omega
  have hs := noSq_at noSq_ok (pt_mem hpp (ge11 p hpp hpn) hp1)
  have x2 := no_square hn2 hpp (ndv p 2 hpp hpn (by omega)) hd h4n.1
  have x3 := no_square hn2 hpp (ndv p 3 hpp hpn (by omega)) hd h4n.2.1
  unfold sqf at hs
  rw [pm_eq (by omega), pm_eq (by omega), x2, x3] at hs
  exact Bool.noConfusion hs
 obtain ⟨r, hr, hrn, hrmin⟩ := exists_least hn2
 obtain ⟨m, hm⟩ := hrn
 have hr11 := ge11 r hr ⟨m, hm⟩
 have hm0 : m ≠ 0 := by rintro rfl; omega
 have hm1 : m ≠ 1 := by rintro rfl; rw [Nat.mul_one] at hm; rw [hm] at hnot; exact hnot hr
 obtain ⟨q, hq, hqm, hqmin⟩ := exists_least (n := m) (by omega)
 have hqn : q ∣ n := Nat.dvd_trans hqm ⟨r, by rw [hm, Nat.mul_comm]⟩
 have hrq : r ≤ q := hrmin q hq hqn
 have hrq' : r ≠ q := by
  rintro rfl
  obtain ⟨c, hc⟩ := hqm
  exact nosq r hr ⟨c, by rw [hm, hc, Nat.mul_assoc]⟩
 obtain ⟨s, hs⟩ := hqm
 have hs0 : s ≠ 0 := by rintro rfl; omega
 have hrqn : r * q ≤ n := by
  rw [hm, hs, ← Nat.mul_assoc]
  exact Nat.le_mul_of_pos_right _ (by omega)
 have hr1 : r ≤ 44721 := by
  apply Classical.byContradiction
  intro hc
  have := Nat.mul_le_mul (show 44722 ≤ r by omega) (show 44722 ≤ q by omega)
  omega
 by_cases hs1 : s = 1
 ·subst hs1
  rw [Nat.mul_one] at hs
  subst hs
  subst hm
  have hP210 : ∀ x, Pr x → x ∣ 210 → x ≤ 10 := by
   intro x hx hd
   have e : (210 : Nat) = mulAll [2, 3, 5, 7] := rfl
   rw [e] at hd
   obtain ⟨y, hy, hxy⟩ := hx.dvd_mulAll hd
   have : 0 < y ∧ y ≤ 10 := by
    revert hy; simp only [List.mem_cons, List.not_mem_nil, or_false]; rintro (rfl | rfl | rfl | rfl) <;> omega
   have := Nat.le_of_dvd this.1 hxy
   omega
  obtain ⟨P', l', a1, a2⟩ := semi_at ascN_ok hP210 semi_ok (pt_mem hr hr11 hr1)
  have h4q : four m (r * m - 1) := four_of_dvd (by omega) hq.1 hqn h4n
  have h4 : four m (r - 1) := ⟨cofactor (by omega) hq (ndv m 2 hq hqn (by omega)) h4q.1, cofactor (by omega) hq (ndv m 3 hq hqn (by omega)) h4q.2.1,
   cofactor (by omega) hq (ndv m 5 hq hqn (by omega)) h4q.2.2.1, cofactor (by omega) hq (ndv m 7 hq hqn (by omega)) h4q.2.2.2⟩
  have := semi1_at a1 hq (by omega) a2 h4 hn
  rw [this] at hp
  exact Bool.noConfusion hp
 ·obtain ⟨u, hu, hus⟩ := exists_pr (n := s) (by omega)
  have hum : u ∣ m := Nat.dvd_trans hus ⟨q, by rw [hs, Nat.mul_comm]⟩
  have huq : q ≤ u := hqmin u hu hum
  have hus' := Nat.le_of_dvd (by omega) hus
  have hqq : r * q * q ≤ 2000000000 := by
   refine Nat.le_trans (Nat.mul_le_mul_left (r * q) (Nat.le_trans huq hus')) ?_
   rw [Nat.mul_assoc, ← hs, ← hm]; exact hn
  have hq13 : q < 13500 := by
   apply Classical.byContradiction
   intro hc
   have a1 := Nat.mul_le_mul hr11 (show 13500 ≤ q by omega)
   have a2 := Nat.mul_le_mul a1 (show 13500 ≤ q by omega)
   omega
  obtain ⟨L, c, hrT⟩ := tt_mem hr hr11 (by omega)
  obtain ⟨M, d, hqT⟩ := tt_mem hq (by omega) hq13
  obtain ⟨er, or⟩ := entOk_ent (tt_ent hrT)
  obtain ⟨eq, oq⟩ := entOk_ent (tt_ent hqT)
  have hrn : r ∣ n := ⟨m, hm⟩
  have hcd : c = d := ent_same hn3 (by omega) hp (by omega) (by omega) hrn hqn er eq
  have hpair := inner_at asc_ok (tt_inner hqT) hrT (by omega) hqq
  subst hcd
  unfold pairOk at hpair
  rw [beq_iff.2 rfl, cond_true] at hpair
  have d1 : L ∣ n - 1 := ordOk_dvd hr.1 or (four_of_dvd hn2 hr.1 hrn h4n)
  have d2 : M ∣ n - 1 := ordOk_dvd hq.1 oq (four_of_dvd hn2 hq.1 hqn h4n)
  have en : n = r * q * s := by rw [hm, hs, Nat.mul_assoc]
  have := pairA_at hpair (s := s) (by rw [← en]; exact hn) (by rw [← en]; omega) (by rw [← en]; exact Nat.lcm_dvd d1 d2)
  rw [← en, hp] at this
  exact Bool.noConfusion this
end Go.Proofs.YtelkokcnedbmeaaGreat.Num
namespace Go.Proofs.YtelkokcnedbmeaaGreat.Num
set_option maxRecDepth 20000
theorem split_unique {t m t' m' : Nat} (hm : m % 2 = 1) (hm' : m' % 2 = 1) (h : 2 ^ t * m = 2 ^ t' * m') : t = t' ∧ m = m' := by
 induction t generalizing t' with
 | zero =>
  cases t' with
  | zero => rw [Nat.pow_zero, Nat.one_mul, Nat.one_mul] at h; exact ⟨rfl, h⟩
  | succ t' => rw [Nat.pow_zero, Nat.one_mul, Nat.pow_succ, Nat.mul_comm (2 ^ t') 2, Nat.mul_assoc] at h; omega
 | succ t ih =>
  cases t' with
  | zero => rw [Nat.pow_zero, Nat.one_mul, Nat.pow_succ, Nat.mul_comm (2 ^ t) 2, Nat.mul_assoc] at h; omega
  | succ t' =>
   rw [Nat.pow_succ, Nat.mul_comm (2 ^ t) 2, Nat.mul_assoc, Nat.pow_succ, Nat.mul_comm (2 ^ t') 2, Nat.mul_assoc] at h
   obtain ⟨a, b⟩ := ih (t' := t') (by omega)
   exact ⟨by omega, b⟩
theorem Pr.sqrt_one {p x : Nat} (hp : Pr p) (h : x * x % p = 1) : x % p = 1 ∨ x % p = p - 1 := by
 have h2 := hp.1
 have hx0 : x ≠ 0 := by rintro rfl; rw [Nat.mul_zero, Nat.zero_mod] at h; omega
 have h1 : x * x % p = 1 % p := h.trans (Nat.mod_eq_of_lt (by omega)).symm
 have hd := dvd_sub_of_mod h1
 have e : x * x - 1 = (x - 1) * (x + 1) := by
  obtain ⟨y, rfl⟩ : ∃ y, x = y + 1 := ⟨x - 1, by omega⟩
  have : (y + 1) * (y + 1) = y * (y + 1 + 1) + 1 := by grind
  rw [this, Nat.add_sub_cancel, Nat.add_sub_cancel]
 rw [e] at hd
 rcases hp.dvd_mul hd with h3 | h3
 ·left
  rw [mod_of_dvd_sub (by omega) h3]
  exact Nat.mod_eq_of_lt (by omega)
 ·right
  obtain ⟨c, hc⟩ := h3
  have hc0 : c ≠ 0 := by rintro rfl; omega
  obtain ⟨f, rfl⟩ : ∃ f, c = f + 1 := ⟨c - 1, by omega⟩
  have : x = (p - 1) + p * f := by rw [Nat.mul_add, Nat.mul_one] at hc; omega
  rw [this, Nat.add_mul_mod_self_left]
  exact Nat.mod_eq_of_lt (by omega)
theorem pr_sp {n t d a : Nat} (hp : Pr n) (hn : n - 1 = 2 ^ t * d) (ha : ¬ n ∣ a) : SP n t d a := by
 have h1 := fermat1 hp ha
 rw [hn] at h1
 have key : ∀ t, a ^ (2 ^ t * d) % n = 1 → SP n t d a := by
  intro t
  induction t with
  | zero => intro h; rw [Nat.pow_zero, Nat.one_mul] at h; exact Or.inl h
  | succ t ih =>
   intro h
   have e : a ^ (2 ^ (t + 1) * d) = a ^ (2 ^ t * d) * a ^ (2 ^ t * d) := by
    rw [← Nat.pow_add]; congr 1; rw [Nat.pow_succ]; grind
   rw [e] at h
   rcases hp.sqrt_one h with h2 | h2
   ·rcases ih h2 with h3 | ⟨i, hi, h3⟩
    ·exact Or.inl h3
    ·exact Or.inr ⟨i, by omega, h3⟩
   ·exact Or.inr ⟨t, by omega, h2⟩
 exact key t h1
theorem sp_pr {n t d : Nat} (hn2 : 2 ≤ n) (hn : n ≤ 2000000000) (hs : n - 1 = 2 ^ t * d) (hd : d % 2 = 1)
 (h2 : ¬ 2 ∣ n) (h3 : ¬ 3 ∣ n) (h5 : ¬ 5 ∣ n) (h7 : ¬ 7 ∣ n) (a : SP n t d 2) (b : SP n t d 3) (c : SP n t d 5) (e : SP n t d 7) : Pr n := by
 have h := split_eq 32 (n - 1)
 have ho : oddp 32 (n - 1) % 2 = 1 := oddp_odd (by omega) (by omega)
 obtain ⟨e1, e2⟩ := split_unique hd ho (hs.symm.trans h.symm)
 subst e1 e2
 have hlt : oddp 32 (n - 1) < 2 ^ 32 := by have := oddp_le 32 (n - 1); omega
 refine passes_pr hn2 hn h2 h3 h5 h7 ?_
 unfold passes
 rw [(stB_iff hlt).2 a, (stB_iff hlt).2 b, (stB_iff hlt).2 c, (stB_iff hlt).2 e]
 rfl
noncomputable def primeB (n : Nat) : Bool := @decide (Pr n) (Classical.propDecidable _)
theorem primeB_true {n : Nat} (h : Pr n) : primeB n = true := by unfold primeB; exact @decide_eq_true _ (Classical.propDecidable _) h
theorem primeB_false {n : Nat} (h : ¬ Pr n) : primeB n = false := by unfold primeB; exact @decide_eq_false _ (Classical.propDecidable _) h
theorem primeB_iff {n : Nat} : primeB n = true ↔ Pr n := by unfold primeB; exact @decide_eq_true_iff _ (Classical.propDecidable _)
theorem primeB_dvd {n q : Nat} (hq : Pr q) (hd : n % q = 0) : primeB n = Nat.beq n q := by
 have hd' := Nat.dvd_of_mod_eq_zero hd
 by_cases h : n = q
 ·subst h; rw [primeB_true hq, Nat.beq_refl]
 ·rw [primeB_false, (beq_false_iff.2 h)]
  intro hp
  exact h (hq.eq_of_dvd hp hd').symm
end Go.Proofs.YtelkokcnedbmeaaGreat.Num
namespace Go.Proofs.YtelkokcnedbmeaaGreat
open Go.RowKit Num
set_option maxRecDepth 20000
set_option maxRecDepth 8000
set_option linter.unusedVariables false
theorem sq_step {a n d i x : Nat} (h : x = a ^ (2 ^ i * d) % n) : x * x % n = a ^ (2 ^ (i + 1) * d) % n := by
 subst h
 rw [← Nat.mul_mod, ← Nat.pow_add]
 congr 2
 rw [Nat.pow_succ]; grind
theorem sub_one_cast {n : Nat} (h : 1 ≤ n) : (n : Int) - 1 = ((n - 1 : Nat) : Int) := by omega
def KQ (n t d : Nat) (k : Int) : Prop := (1 ≤ k → ¬ 2 ∣ n ∧ SP n t d 2) ∧ (2 ≤ k → ¬ 3 ∣ n ∧ SP n t d 3) ∧ (3 ≤ k → ¬ 5 ∣ n ∧ SP n t d 5) ∧ (4 ≤ k → ¬ 7 ∣ n ∧ SP n t d 7)
theorem KQ.zero {n t d : Nat} : KQ n t d 0 := ⟨fun h => absurd h (by omega), fun h => absurd h (by omega), fun h => absurd h (by omega), fun h => absurd h (by omega)⟩
theorem KQ.one {n t d : Nat} (a : ¬ 2 ∣ n) (b : SP n t d 2) : KQ n t d (0 + 1) := ⟨fun _ => ⟨a, b⟩, fun h => absurd h (by omega), fun h => absurd h (by omega), fun h => absurd h (by omega)⟩
theorem KQ.two {n t d : Nat} (k : KQ n t d 1) (a : ¬ 3 ∣ n) (b : SP n t d 3) : KQ n t d (1 + 1) := ⟨fun _ => k.1 (by omega), fun _ => ⟨a, b⟩, fun h => absurd h (by omega), fun h => absurd h (by omega)⟩
theorem KQ.three {n t d : Nat} (k : KQ n t d 2) (a : ¬ 5 ∣ n) (b : SP n t d 5) : KQ n t d (2 + 1) := ⟨fun _ => k.1 (by omega), fun _ => k.2.1 (by omega), fun _ => ⟨a, b⟩, fun h => absurd h (by omega)⟩
theorem KQ.four {n t d : Nat} (k : KQ n t d 3) (a : ¬ 7 ∣ n) (b : SP n t d 7) : KQ n t d (3 + 1) := ⟨fun _ => k.1 (by omega), fun _ => k.2.1 (by omega), fun _ => k.2.2.1 (by omega), fun _ => ⟨a, b⟩⟩
theorem KQ.all {n t d : Nat} (k : KQ n t d 4) : (¬ 2 ∣ n ∧ SP n t d 2) ∧ (¬ 3 ∣ n ∧ SP n t d 3) ∧ (¬ 5 ∣ n ∧ SP n t d 5) ∧ (¬ 7 ∣ n ∧ SP n t d 7) := ⟨k.1 (by omega), k.2.1 (by omega), k.2.2.1 (by omega), k.2.2.2 (by omega)⟩
set_option maxHeartbeats 4000000 in
theorem prime_any (n : Nat) (w : World) (hn2 : 2 ≤ n) (hn : n ≤ 2000000000) :
 Calls Tryz.prog 113 #[.int .i64 n] w fun e w' => e = .returned (.bool (primeB n)) ∧ Below w.heap.size w w' := by
 have g0 : IntKind.i64.wrap ((n : Int) - 1) = ((n - 1 : Nat) : Int) := by rw [IntWalk.i64_in _ (by omega)]; exact sub_one_cast (by omega)
 have ix0 : ∀ w : World, (Instr.index 174 (.agg #[.int .i64 2, .int .i64 3, .int .i64 5, .int .i64 7]) (.int .i64 0)).run Tryz.prog w = .ok (.int .i64 2) w := by intro w; simp [go_sem, Instr.index]
 have ix1 : ∀ w : World, (Instr.index 174 (.agg #[.int .i64 2, .int .i64 3, .int .i64 5, .int .i64 7]) (.int .i64 1)).run Tryz.prog w = .ok (.int .i64 3) w := by intro w; simp [go_sem, Instr.index]
 have ix2 : ∀ w : World, (Instr.index 174 (.agg #[.int .i64 2, .int .i64 3, .int .i64 5, .int .i64 7]) (.int .i64 2)).run Tryz.prog w = .ok (.int .i64 5) w := by intro w; simp [go_sem, Instr.index]
 have ix3 : ∀ w : World, (Instr.index 174 (.agg #[.int .i64 2, .int .i64 3, .int .i64 5, .int .i64 7]) (.int .i64 3)).run Tryz.prog w = .ok (.int .i64 7) w := by intro w; simp [go_sem, Instr.index]
 go_enter Tryz.func113, Tryz.ntmps113
 go_wp2
 go_step3
 go_wp2
 go_loopg [3, 4] (n - 1) (fun gk o s wr => ∃ m t : Nat, m = gk ∧ o = .int .i64 m ∧ s = .int .i64 t ∧ wr = w ∧ 1 ≤ m ∧ m ≤ n ∧ t + m ≤ n ∧ Hid (n - 1 = 2 ^ t * m))
 case atStart => exact ⟨n - 1, 0, rfl, rfl, rfl, rfl, by omega, by omega, by omega, Lib.hid (by rw [Nat.pow_zero, Nat.one_mul])⟩
 case round =>
  obtain ⟨d, t, hm, rfl, rfl, hw, h1, h2, h3, HT⟩ := hrel
  replace hw := hw.symm
  subst hw
  have HM := Lib.hid hm
  clear hm
  by_cases hev : d % 2 = 0
  ·have f1 : (((d % 2 : Nat) : Int) == 0) = true := by rw [hev]; rfl
   go_wp2
   go_roundg (d / 2)
   case rel => exact ⟨d / 2, t + 1, rfl, rfl, by go_num, rfl, by omega, by omega, by omega, Lib.hid (by rw [HT.out, Nat.pow_succ, Nat.mul_assoc]; congr 1; omega)⟩
   case measure => have := HM.out; omega
  ·have f1 : (((d % 2 : Nat) : Int) == 0) = false := by rw [beq_eq_false_iff_ne]; omega
   have HO := Lib.hid (show d % 2 = 1 by omega)
   clear hev
   go_wp2
   go_step3
   go_wp2
   have f1' : ((d : Int) % 2 == 0) = false := by rw [beq_eq_false_iff_ne]; have := HO.out; omega
   rw [f1']
   go_loopg [18] 4 (fun gk i wr => ∃ k : Int, i = .int .i64 k ∧ (gk : Int) + k = 4 ∧ Below w.heap.size w wr ∧ 0 ≤ k ∧ KQ n t d k)
   case atStart => exact ⟨0, rfl, by omega, Below.refl _ _, by omega, KQ.zero⟩
   case round =>
    obtain ⟨k, rfl, hg, hB, hk0, HK⟩ := hrel
    have hk : k = 0 ∨ k = 1 ∨ k = 2 ∨ k = 3 ∨ k = 4 := by omega
    have HG := Lib.hid hg
    clear hg hk0
    rcases hk with rfl | rfl | rfl | rfl | rfl
    ·have hq0 : Pr 2 := pr_small (by decide)
     by_cases hdv : n % 2 = 0
     ·have f1 : (((n % 2 : Nat) : Int) == 0) = true := by rw [hdv]; rfl
      have HD := Lib.hid hdv
      clear hdv
      go_wp2
      (try rw [Exit.noGoto_ret])
      go_ret
      exact ⟨ret_bool (by rw [primeB_dvd hq0 HD.out, Bool.eq_iff_iff, beq_iff, beq_iff_eq]; omega), hB⟩
     ·have f1 : (((n % 2 : Nat) : Int) == 0) = false := by rw [beq_eq_false_iff_ne]; omega
      have HD := Lib.hid (show ¬ 2 ∣ n from fun h => hdv (Nat.mod_eq_zero_of_dvd h))
      have hnq := Lib.hid (show ¬ n ∣ 2 from fun h => by
       rcases hq0.2 n h with h1 | h1
       ·omega
       ·exact HD.out (by rw [h1]; exact Nat.dvd_refl _))
      clear hdv
      go_wp2_with fail
      refine (power_any n 2 d _ (by omega) (by omega) (by omega) (by omega)).mono ?_
      rintro _ w2 ⟨rfl, hb2⟩
      have hB2 := bstep hB hb2
      clear hb2
      generalize hX : 2 ^ d % n = x0
      have hxn : x0 < n := by rw [← hX]; exact Nat.mod_lt _ (by omega)
      have HX := Lib.hid hX
      clear hX
      by_cases h1 : x0 = 1
      ·have f2 : ((x0 : Int) == 1) = true := by rw [h1]; rfl
       have HS := Lib.hid (show SP n t d 2 from Or.inl (HX.out.trans h1))
       clear h1
       go_wp2
       go_roundg (gk - 1)
       case rel => exact ⟨0 + 1, by go_num, by have := HG.out; omega, hB2, by omega, KQ.one HD.out HS.out⟩
       case measure => have := HG.out; omega
      ·have f2 : ((x0 : Int) == 1) = false := by rw [beq_eq_false_iff_ne]; omega
       have HN := Lib.hid h1
       clear h1
       obtain ⟨gu, hgu⟩ : ∃ gu, gu = gk := ⟨gk, rfl⟩
       have HGU := Lib.hid hgu
       clear hgu
       go_wp2
       clear f1 f2
       go_loopg [35, 7] t (fun gk i x wr => ∃ (j y : Nat), j + gk = t ∧ i = .int .i64 j ∧ x = .int .i64 y ∧ y < n ∧ wr = w2 ∧ Hid (y = 2 ^ (2 ^ j * d) % n) ∧ Hid (∀ m, m < j → 2 ^ (2 ^ m * d) % n ≠ n - 1))
       case atStart => exact ⟨0, x0, by omega, rfl, rfl, hxn, rfl, Lib.hid (by rw [Nat.pow_zero, Nat.one_mul]; exact HX.out.symm), Lib.hid (by intro m hm; omega)⟩
       case round =>
        obtain ⟨j, y, hj, rfl, rfl, hy, rfl, HY, HA⟩ := hrel
        have hjt : j ≤ t := by omega
        have HJ := Lib.hid hj
        clear hj
        by_cases hlt : j < t
        ·have g1 : IntKind.i64.wrap ((n : Int) - 1) = ((n - 1 : Nat) : Int) := by rw [IntWalk.i64_in _ (by omega)]; exact sub_one_cast (by omega)
         have g2 := mul_wrap (x := y) (y := y) (by omega) (by omega)
         by_cases he : y = n - 1
         ·have g3 : ((y : Int) == ((n - 1 : Nat) : Int)) = true := by rw [he]; exact beq_self_eq_true _
          have HS := Lib.hid (show SP n t d 2 from Or.inr ⟨j, hlt, by rw [← HY.out]; exact he⟩)
          clear he
          go_wp2
          go_roundg (gu - 1)
          case rel => exact ⟨0 + 1, by go_num, by have := HG.out; have := HGU.out; omega, hB2, by omega, KQ.one HD.out HS.out⟩
          case measure => have := HG.out; have := HGU.out; omega
         ·have g3 : ((y : Int) == ((n - 1 : Nat) : Int)) = false := by rw [beq_eq_false_iff_ne]; omega
          have HE := Lib.hid he
          clear he
          go_wp2
          go_roundg (gk - 1)
          case rel =>
           refine ⟨j + 1, y * y % n, by have := HJ.out; omega, by go_num, rfl, Nat.mod_lt _ (by omega), rfl, Lib.hid (sq_step HY.out), Lib.hid ?_⟩
           intro m hm
           by_cases h : m = j
           ·subst h; rw [← HY.out]; exact HE.out
           ·exact HA.out m (by omega)
          case measure => have := HJ.out; omega
        ·go_wp2
         (try rw [Exit.noGoto_ret])
         go_ret
         refine ⟨ret_bool (primeB_false ?_).symm, hB2⟩
         intro hp
         rcases pr_sp hp HT.out hnq.out with h | ⟨i, hi, h⟩
         ·exact HN.out (HX.out.symm.trans h)
         ·exact HA.out i (by omega) h
    ·have hq0 : Pr 3 := pr_small (by decide)
     by_cases hdv : n % 3 = 0
     ·have f1 : (((n % 3 : Nat) : Int) == 0) = true := by rw [hdv]; rfl
      have HD := Lib.hid hdv
      clear hdv
      go_wp2
      (try rw [Exit.noGoto_ret])
      go_ret
      exact ⟨ret_bool (by rw [primeB_dvd hq0 HD.out, Bool.eq_iff_iff, beq_iff, beq_iff_eq]; omega), hB⟩
     ·have f1 : (((n % 3 : Nat) : Int) == 0) = false := by rw [beq_eq_false_iff_ne]; omega
      have HD := Lib.hid (show ¬ 3 ∣ n from fun h => hdv (Nat.mod_eq_zero_of_dvd h))
      have hnq := Lib.hid (show ¬ n ∣ 3 from fun h => by
       rcases hq0.2 n h with h1 | h1
       ·omega
       ·exact HD.out (by rw [h1]; exact Nat.dvd_refl _))
      clear hdv
      go_wp2_with fail
      refine (power_any n 3 d _ (by omega) (by omega) (by omega) (by omega)).mono ?_
      rintro _ w2 ⟨rfl, hb2⟩
      have hB2 := bstep hB hb2
      clear hb2
      generalize hX : 3 ^ d % n = x0
      have hxn : x0 < n := by rw [← hX]; exact Nat.mod_lt _ (by omega)
      have HX := Lib.hid hX
      clear hX
      by_cases h1 : x0 = 1
      ·have f2 : ((x0 : Int) == 1) = true := by rw [h1]; rfl
       have HS := Lib.hid (show SP n t d 3 from Or.inl (HX.out.trans h1))
       clear h1
       go_wp2
       go_roundg (gk - 1)
       case rel => exact ⟨1 + 1, by go_num, by have := HG.out; omega, hB2, by omega, KQ.two HK HD.out HS.out⟩
       case measure => have := HG.out; omega
      ·have f2 : ((x0 : Int) == 1) = false := by rw [beq_eq_false_iff_ne]; omega
       have HN := Lib.hid h1
       clear h1
       obtain ⟨gu, hgu⟩ : ∃ gu, gu = gk := ⟨gk, rfl⟩
       have HGU := Lib.hid hgu
       clear hgu
       go_wp2
       clear f1 f2
       go_loopg [35, 7] t (fun gk i x wr => ∃ (j y : Nat), j + gk = t ∧ i = .int .i64 j ∧ x = .int .i64 y ∧ y < n ∧ wr = w2 ∧ Hid (y = 3 ^ (2 ^ j * d) % n) ∧ Hid (∀ m, m < j → 3 ^ (2 ^ m * d) % n ≠ n - 1))
       case atStart => exact ⟨0, x0, by omega, rfl, rfl, hxn, rfl, Lib.hid (by rw [Nat.pow_zero, Nat.one_mul]; exact HX.out.symm), Lib.hid (by intro m hm; omega)⟩
       case round =>
        obtain ⟨j, y, hj, rfl, rfl, hy, rfl, HY, HA⟩ := hrel
        have hjt : j ≤ t := by omega
        have HJ := Lib.hid hj
        clear hj
        by_cases hlt : j < t
        ·have g1 : IntKind.i64.wrap ((n : Int) - 1) = ((n - 1 : Nat) : Int) := by rw [IntWalk.i64_in _ (by omega)]; exact sub_one_cast (by omega)
         have g2 := mul_wrap (x := y) (y := y) (by omega) (by omega)
         by_cases he : y = n - 1
         ·have g3 : ((y : Int) == ((n - 1 : Nat) : Int)) = true := by rw [he]; exact beq_self_eq_true _
          have HS := Lib.hid (show SP n t d 3 from Or.inr ⟨j, hlt, by rw [← HY.out]; exact he⟩)
          clear he
          go_wp2
          go_roundg (gu - 1)
          case rel => exact ⟨1 + 1, by go_num, by have := HG.out; have := HGU.out; omega, hB2, by omega, KQ.two HK HD.out HS.out⟩
          case measure => have := HG.out; have := HGU.out; omega
         ·have g3 : ((y : Int) == ((n - 1 : Nat) : Int)) = false := by rw [beq_eq_false_iff_ne]; omega
          have HE := Lib.hid he
          clear he
          go_wp2
          go_roundg (gk - 1)
          case rel =>
           refine ⟨j + 1, y * y % n, by have := HJ.out; omega, by go_num, rfl, Nat.mod_lt _ (by omega), rfl, Lib.hid (sq_step HY.out), Lib.hid ?_⟩
           intro m hm
           by_cases h : m = j
           ·subst h; rw [← HY.out]; exact HE.out
           ·exact HA.out m (by omega)
          case measure => have := HJ.out; omega
        ·go_wp2
         (try rw [Exit.noGoto_ret])
         go_ret
         refine ⟨ret_bool (primeB_false ?_).symm, hB2⟩
         intro hp
         rcases pr_sp hp HT.out hnq.out with h | ⟨i, hi, h⟩
         ·exact HN.out (HX.out.symm.trans h)
         ·exact HA.out i (by omega) h
    ·have hq0 : Pr 5 := pr_small (by decide)
     by_cases hdv : n % 5 = 0
     ·have f1 : (((n % 5 : Nat) : Int) == 0) = true := by rw [hdv]; rfl
      have HD := Lib.hid hdv
      clear hdv
      go_wp2
      (try rw [Exit.noGoto_ret])
      go_ret
      exact ⟨ret_bool (by rw [primeB_dvd hq0 HD.out, Bool.eq_iff_iff, beq_iff, beq_iff_eq]; omega), hB⟩
     ·have f1 : (((n % 5 : Nat) : Int) == 0) = false := by rw [beq_eq_false_iff_ne]; omega
      have HD := Lib.hid (show ¬ 5 ∣ n from fun h => hdv (Nat.mod_eq_zero_of_dvd h))
      have hnq := Lib.hid (show ¬ n ∣ 5 from fun h => by
       rcases hq0.2 n h with h1 | h1
       ·omega
       ·exact HD.out (by rw [h1]; exact Nat.dvd_refl _))
      clear hdv
      go_wp2_with fail
      refine (power_any n 5 d _ (by omega) (by omega) (by omega) (by omega)).mono ?_
      rintro _ w2 ⟨rfl, hb2⟩
      have hB2 := bstep hB hb2
      clear hb2
      generalize hX : 5 ^ d % n = x0
      have hxn : x0 < n := by rw [← hX]; exact Nat.mod_lt _ (by omega)
      have HX := Lib.hid hX
      clear hX
      by_cases h1 : x0 = 1
      ·have f2 : ((x0 : Int) == 1) = true := by rw [h1]; rfl
       have HS := Lib.hid (show SP n t d 5 from Or.inl (HX.out.trans h1))
       clear h1
       go_wp2
       go_roundg (gk - 1)
       case rel => exact ⟨2 + 1, by go_num, by have := HG.out; omega, hB2, by omega, KQ.three HK HD.out HS.out⟩
       case measure => have := HG.out; omega
      ·have f2 : ((x0 : Int) == 1) = false := by rw [beq_eq_false_iff_ne]; omega
       have HN := Lib.hid h1
       clear h1
       obtain ⟨gu, hgu⟩ : ∃ gu, gu = gk := ⟨gk, rfl⟩
       have HGU := Lib.hid hgu
       clear hgu
       go_wp2
       clear f1 f2
       go_loopg [35, 7] t (fun gk i x wr => ∃ (j y : Nat), j + gk = t ∧ i = .int .i64 j ∧ x = .int .i64 y ∧ y < n ∧ wr = w2 ∧ Hid (y = 5 ^ (2 ^ j * d) % n) ∧ Hid (∀ m, m < j → 5 ^ (2 ^ m * d) % n ≠ n - 1))
       case atStart => exact ⟨0, x0, by omega, rfl, rfl, hxn, rfl, Lib.hid (by rw [Nat.pow_zero, Nat.one_mul]; exact HX.out.symm), Lib.hid (by intro m hm; omega)⟩
       case round =>
        obtain ⟨j, y, hj, rfl, rfl, hy, rfl, HY, HA⟩ := hrel
        have hjt : j ≤ t := by omega
        have HJ := Lib.hid hj
        clear hj
        by_cases hlt : j < t
        ·have g1 : IntKind.i64.wrap ((n : Int) - 1) = ((n - 1 : Nat) : Int) := by rw [IntWalk.i64_in _ (by omega)]; exact sub_one_cast (by omega)
         have g2 := mul_wrap (x := y) (y := y) (by omega) (by omega)
         by_cases he : y = n - 1
         ·have g3 : ((y : Int) == ((n - 1 : Nat) : Int)) = true := by rw [he]; exact beq_self_eq_true _
          have HS := Lib.hid (show SP n t d 5 from Or.inr ⟨j, hlt, by rw [← HY.out]; exact he⟩)
          clear he
          go_wp2
          go_roundg (gu - 1)
          case rel => exact ⟨2 + 1, by go_num, by have := HG.out; have := HGU.out; omega, hB2, by omega, KQ.three HK HD.out HS.out⟩
          case measure => have := HG.out; have := HGU.out; omega
         ·have g3 : ((y : Int) == ((n - 1 : Nat) : Int)) = false := by rw [beq_eq_false_iff_ne]; omega
          have HE := Lib.hid he
          clear he
          go_wp2
          go_roundg (gk - 1)
          case rel =>
           refine ⟨j + 1, y * y % n, by have := HJ.out; omega, by go_num, rfl, Nat.mod_lt _ (by omega), rfl, Lib.hid (sq_step HY.out), Lib.hid ?_⟩
           intro m hm
           by_cases h : m = j
           ·subst h; rw [← HY.out]; exact HE.out
           ·exact HA.out m (by omega)
          case measure => have := HJ.out; omega
        ·go_wp2
         (try rw [Exit.noGoto_ret])
         go_ret
         refine ⟨ret_bool (primeB_false ?_).symm, hB2⟩
         intro hp
         rcases pr_sp hp HT.out hnq.out with h | ⟨i, hi, h⟩
         ·exact HN.out (HX.out.symm.trans h)
         ·exact HA.out i (by omega) h
    ·have hq0 : Pr 7 := pr_small (by decide)
     by_cases hdv : n % 7 = 0
     ·have f1 : (((n % 7 : Nat) : Int) == 0) = true := by rw [hdv]; rfl
      have HD := Lib.hid hdv
      clear hdv
      go_wp2
      (try rw [Exit.noGoto_ret])
      go_ret
      exact ⟨ret_bool (by rw [primeB_dvd hq0 HD.out, Bool.eq_iff_iff, beq_iff, beq_iff_eq]; omega), hB⟩
     ·have f1 : (((n % 7 : Nat) : Int) == 0) = false := by rw [beq_eq_false_iff_ne]; omega
      have HD := Lib.hid (show ¬ 7 ∣ n from fun h => hdv (Nat.mod_eq_zero_of_dvd h))
      have hnq := Lib.hid (show ¬ n ∣ 7 from fun h => by
       rcases hq0.2 n h with h1 | h1
       ·omega
       ·exact HD.out (by rw [h1]; exact Nat.dvd_refl _))
      clear hdv
      go_wp2_with fail
      refine (power_any n 7 d _ (by omega) (by omega) (by omega) (by omega)).mono ?_
      rintro _ w2 ⟨rfl, hb2⟩
      have hB2 := bstep hB hb2
      clear hb2
      generalize hX : 7 ^ d % n = x0
      have hxn : x0 < n := by rw [← hX]; exact Nat.mod_lt _ (by omega)
      have HX := Lib.hid hX
      clear hX
      by_cases h1 : x0 = 1
      ·have f2 : ((x0 : Int) == 1) = true := by rw [h1]; rfl
       have HS := Lib.hid (show SP n t d 7 from Or.inl (HX.out.trans h1))
       clear h1
       go_wp2
       go_roundg (gk - 1)
       case rel => exact ⟨3 + 1, by go_num, by have := HG.out; omega, hB2, by omega, KQ.four HK HD.out HS.out⟩
       case measure => have := HG.out; omega
      ·have f2 : ((x0 : Int) == 1) = false := by rw [beq_eq_false_iff_ne]; omega
       have HN := Lib.hid h1
       clear h1
       obtain ⟨gu, hgu⟩ : ∃ gu, gu = gk := ⟨gk, rfl⟩
       have HGU := Lib.hid hgu
       clear hgu
       go_wp2
       clear f1 f2
       go_loopg [35, 7] t (fun gk i x wr => ∃ (j y : Nat), j + gk = t ∧ i = .int .i64 j ∧ x = .int .i64 y ∧ y < n ∧ wr = w2 ∧ Hid (y = 7 ^ (2 ^ j * d) % n) ∧ Hid (∀ m, m < j → 7 ^ (2 ^ m * d) % n ≠ n - 1))
       case atStart => exact ⟨0, x0, by omega, rfl, rfl, hxn, rfl, Lib.hid (by rw [Nat.pow_zero, Nat.one_mul]; exact HX.out.symm), Lib.hid (by intro m hm; omega)⟩
       case round =>
        obtain ⟨j, y, hj, rfl, rfl, hy, rfl, HY, HA⟩ := hrel
        have hjt : j ≤ t := by omega
        have HJ := Lib.hid hj
        clear hj
        by_cases hlt : j < t
        ·have g1 : IntKind.i64.wrap ((n : Int) - 1) = ((n - 1 : Nat) : Int) := by rw [IntWalk.i64_in _ (by omega)]; exact sub_one_cast (by omega)
         have g2 := mul_wrap (x := y) (y := y) (by omega) (by omega)
         by_cases he : y = n - 1
         ·have g3 : ((y : Int) == ((n - 1 : Nat) : Int)) = true := by rw [he]; exact beq_self_eq_true _
          have HS := Lib.hid (show SP n t d 7 from Or.inr ⟨j, hlt, by rw [← HY.out]; exact he⟩)
          clear he
          go_wp2
          go_roundg (gu - 1)
          case rel => exact ⟨3 + 1, by go_num, by have := HG.out; have := HGU.out; omega, hB2, by omega, KQ.four HK HD.out HS.out⟩
          case measure => have := HG.out; have := HGU.out; omega
         ·have g3 : ((y : Int) == ((n - 1 : Nat) : Int)) = false := by rw [beq_eq_false_iff_ne]; omega
          have HE := Lib.hid he
          clear he
          go_wp2
          go_roundg (gk - 1)
          case rel =>
           refine ⟨j + 1, y * y % n, by have := HJ.out; omega, by go_num, rfl, Nat.mod_lt _ (by omega), rfl, Lib.hid (sq_step HY.out), Lib.hid ?_⟩
           intro m hm
           by_cases h : m = j
           ·subst h; rw [← HY.out]; exact HE.out
           ·exact HA.out m (by omega)
          case measure => have := HJ.out; omega
        ·go_wp2
         (try rw [Exit.noGoto_ret])
         go_ret
         refine ⟨ret_bool (primeB_false ?_).symm, hB2⟩
         intro hp
         rcases pr_sp hp HT.out hnq.out with h | ⟨i, hi, h⟩
         ·exact HN.out (HX.out.symm.trans h)
         ·exact HA.out i (by omega) h
    ·go_wp2
     (try rw [Exit.noGoto_ret])
     go_ret
     obtain ⟨⟨a1, a2⟩, ⟨b1, b2⟩, ⟨c1, c2⟩, d1, d2⟩ := HK.all
     exact ⟨ret_bool (primeB_true (sp_pr hn2 hn HT.out HO.out a1 b1 c1 d1 a2 b2 c2 d2)).symm, hB⟩
end Go.Proofs.YtelkokcnedbmeaaGreat
