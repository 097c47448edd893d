/-
  FourierInverse.
  Plain: turns and phases, a convolution with a single 1.
  Plain: the transform of a convolution, of a sum.
  Correlation by way of the transform: products of transforms are correlations. Plain lists, no program in sight.
-/
import Derived.Test.YtnhjeelcgfobnaaNumA
import Derived.Test.YtnhjeelcgfobnaaPFouG
namespace Go.Proofs.Ytnhjeelcgfobnaa.Dft
/-- a sum -/
def S (f : Nat → Int) : Nat → Int
  | 0 => 0
  | n + 1 => S f n + f n
/-- congruent modulo p -/
def C (p : Int) (a b : Int) : Prop := p ∣ a - b
theorem C.refl (p a : Int) : C p a a := by unfold C; rw [Int.sub_self]; exact Int.dvd_zero p
theorem C.of_eq {p a b : Int} (h : a = b) : C p a b := by subst h; exact C.refl p a
theorem C.symm {p a b : Int} (h : C p a b) : C p b a := by
  unfold C at *; rw [show b - a = -(a - b) by omega]; exact Int.dvd_neg.2 h
theorem C.trans {p a b c : Int} (h : C p a b) (h' : C p b c) : C p a c := by
  unfold C at *; rw [show a - c = (a - b) + (b - c) by omega]; exact Int.dvd_add h h'
theorem C.add {p a b c d : Int} (h : C p a b) (h' : C p c d) : C p (a + c) (b + d) := by
  unfold C at *; rw [show a + c - (b + d) = (a - b) + (c - d) by omega]; exact Int.dvd_add h h'
theorem C.mul {p a b c d : Int} (h : C p a b) (h' : C p c d) : C p (a * c) (b * d) := by
  unfold C at *
  rw [show a * c - b * d = a * (c - d) + (a - b) * d by grind]
  exact Int.dvd_add (Int.dvd_trans h' (Int.dvd_mul_left _ _)) (Int.dvd_trans h (Int.dvd_mul_right _ _))
theorem C.pow {p a b : Int} (h : C p a b) (n : Nat) : C p (a ^ n) (b ^ n) := by
  induction n with
  | zero => exact C.of_eq (by rw [Int.pow_zero, Int.pow_zero])
  | succ n ih => rw [Int.pow_succ, Int.pow_succ]; exact ih.mul h
theorem C.emod (p a : Int) : C p (a % p) a := by
  unfold C
  rw [show a % p - a = p * (-(a / p)) by have := Int.mul_ediv_add_emod a p; rw [Int.mul_neg]; omega]
  exact Int.dvd_mul_right _ _
theorem C.eq {p a b : Int} (h : C p a b) (ha : 0 ≤ a ∧ a < p) (hb : 0 ≤ b ∧ b < p) : a = b := by
  obtain ⟨c, hc⟩ := h
  have hp : 0 < p := by omega
  have : c = 0 := by
    rcases Int.lt_trichotomy c 0 with h1 | h1 | h1
    · exfalso
      have : p * c ≤ p * (-1) := Int.mul_le_mul_of_nonneg_left (by omega) (by omega)
      omega
    · exact h1
    · exfalso
      have : p * 1 ≤ p * c := Int.mul_le_mul_of_nonneg_left (by omega) (by omega)
      omega
  subst this
  omega
theorem S_congr {f g : Nat → Int} {n : Nat} (h : ∀ j, j < n → f j = g j) : S f n = S g n := by
  induction n with
  | zero => rfl
  | succ n ih => show S f n + f n = S g n + g n; rw [ih (fun j hj => h j (by omega)), h n (by omega)]
theorem S_C {p : Int} {f g : Nat → Int} {n : Nat} (h : ∀ j, j < n → C p (f j) (g j)) : C p (S f n) (S g n) := by
  induction n with
  | zero => exact C.refl _ _
  | succ n ih => exact (ih (fun j hj => h j (by omega))).add (h n (by omega))
theorem S_mul (c : Int) (f : Nat → Int) (n : Nat) : S (fun j => c * f j) n = c * S f n := by
  induction n with
  | zero => show (0 : Int) = c * 0; omega
  | succ n ih => show S (fun j => c * f j) n + c * f n = c * (S f n + f n); rw [ih]; grind
theorem S_mul' (c : Int) (f : Nat → Int) (n : Nat) : S (fun j => f j * c) n = S f n * c := by
  rw [Int.mul_comm, ← S_mul]; exact S_congr (fun j _ => Int.mul_comm _ _)
theorem S_add (f g : Nat → Int) (n : Nat) : S (fun j => f j + g j) n = S f n + S g n := by
  induction n with
  | zero => rfl
  | succ n ih => show S (fun j => f j + g j) n + (f n + g n) = (S f n + f n) + (S g n + g n); rw [ih]; omega
theorem S_zero (n : Nat) : S (fun _ => 0) n = 0 := by
  induction n with
  | zero => rfl
  | succ n ih => show S (fun _ => 0) n + 0 = 0; rw [ih]; rfl
theorem S_swap (f : Nat → Nat → Int) (n m : Nat) : S (fun j => S (fun k => f j k) m) n = S (fun k => S (fun j => f j k) n) m := by
  induction n with
  | zero => show (0 : Int) = S (fun _ => 0) m; rw [S_zero]
  | succ n ih =>
    show S (fun j => S (fun k => f j k) m) n + S (fun k => f n k) m = S (fun k => S (fun j => f j k) n + f n k) m
    rw [ih, S_add]
/-- only one term is not 0 -/
theorem S_one {f : Nat → Int} {n k : Nat} (hk : k < n) (h : ∀ j, j < n → j ≠ k → f j = 0) : S f n = f k := by
  induction n with
  | zero => omega
  | succ n ih =>
    show S f n + f n = f k
    by_cases e : k = n
    · subst e
      rw [S_congr (g := fun _ => 0) (fun j hj => h j (by omega) (by omega)), S_zero]; omega
    · rw [ih (by omega) (fun j hj => h j (by omega)), h n (by omega) (fun e' => e e'.symm)]; omega
theorem S_one_C {p : Int} {f : Nat → Int} {n k : Nat} (hk : k < n) (h : ∀ j, j < n → j ≠ k → C p (f j) 0) : C p (S f n) (f k) := by
  have h1 : C p (S f n) (S (fun j => if j = k then f k else 0) n) := S_C (fun j hj => by
    by_cases e : j = k
    · subst e; simp only [if_pos]; exact C.refl _ _
    · simp only [if_neg e]; exact h j hj e)
  refine h1.trans (C.of_eq ?_)
  rw [S_one hk (fun j _ e => if_neg e), if_pos rfl]
theorem S_const (c : Int) (n : Nat) : S (fun _ => c) n = (n : Int) * c := by
  induction n with
  | zero => show (0 : Int) = 0 * c; omega
  | succ n ih => show S (fun _ => c) n + c = _; rw [ih]; grind
theorem geom (z : Int) (n : Nat) : (z - 1) * S (fun k => z ^ k) n = z ^ n - 1 := by
  induction n with
  | zero => show (z - 1) * 0 = z ^ 0 - 1; rw [Int.pow_zero]; omega
  | succ n ih =>
    show (z - 1) * (S (fun k => z ^ k) n + z ^ n) = z ^ (n + 1) - 1
    rw [Int.mul_add, ih, Int.pow_succ]; grind

/-- x and y are inverse roots for n -/
structure Rt (p x y : Int) (n : Nat) : Prop where
  pr : ∀ a b, p ∣ a * b → p ∣ a ∨ p ∣ b
  xy : C p (x * y) 1
  xn : C p (x ^ n) 1
  yn : C p (y ^ n) 1
  ne : ∀ i j, i < n → j < n → C p (x ^ i) (x ^ j) → i = j
theorem Rt.xym {p x y : Int} {n : Nat} (h : Rt p x y n) (m : Nat) : C p (x ^ m * y ^ m) 1 := by
  rw [← Int.mul_pow]
  have := h.xy.pow m
  rw [Int.one_pow] at this
  exact this
theorem Rt.swap {p x y : Int} {n : Nat} (h : Rt p x y n) : Rt p y x n := by
  refine ⟨h.pr, by rw [Int.mul_comm]; exact h.xy, h.yn, h.xn, ?_⟩
  intro i j hi hj hc
  refine (h.ne j i hj hi ?_).symm
  -- x^j = x^j (x^i y^i) = x^i (x^j y^i) = x^i (x^j y^j) = x^i
  have h1 : C p (x ^ j) (x ^ j * (x ^ i * y ^ i)) := by
    have := (C.refl p (x ^ j)).mul (h.xym i)
    rw [Int.mul_one] at this
    exact this.symm
  have h2 : C p (x ^ j * (x ^ i * y ^ i)) (x ^ j * (x ^ i * y ^ j)) := (C.refl _ _).mul ((C.refl _ _).mul hc)
  have h3 : C p (x ^ j * (x ^ i * y ^ j)) (x ^ i) := by
    rw [show x ^ j * (x ^ i * y ^ j) = x ^ i * (x ^ j * y ^ j) by grind]
    have := (C.refl p (x ^ i)).mul (h.xym j)
    rw [Int.mul_one] at this
    exact this
  exact (h1.trans h2).trans h3
/-- there and back -/
theorem Rt.inverse {p x y : Int} {n : Nat} (h : Rt p x y n) (l : Nat → Int) {m : Nat} (hm : m < n) :
    C p (S (fun k => S (fun j => l j * x ^ (j * k)) n * y ^ (k * m)) n) ((n : Int) * l m) := by
  have e1 : S (fun k => S (fun j => l j * x ^ (j * k)) n * y ^ (k * m)) n = S (fun j => l j * S (fun k => (x ^ j * y ^ m) ^ k) n) n := by
    rw [S_congr (g := fun k => S (fun j => l j * x ^ (j * k) * y ^ (k * m)) n) (fun k _ => (S_mul' _ _ _).symm), S_swap]
    refine S_congr (fun k _ => ?_)
    rw [← S_mul]
    refine S_congr (fun j _ => ?_)
    rw [Int.mul_pow, ← Int.pow_mul, ← Int.pow_mul, Nat.mul_comm j m, Int.mul_assoc]
  rw [e1]
  refine (S_one_C hm (fun j hj hne => ?_)).trans ?_
  · have hz : C p ((x ^ j * y ^ m) ^ n) 1 := by
      rw [Int.mul_pow, ← Int.pow_mul, ← Int.pow_mul, Nat.mul_comm j n, Nat.mul_comm m n, Int.pow_mul, Int.pow_mul]
      have := (h.xn.pow j).mul (h.yn.pow m)
      rw [Int.one_pow, Int.one_pow] at this
      exact this
    have hd : p ∣ (x ^ j * y ^ m - 1) * S (fun k => (x ^ j * y ^ m) ^ k) n := by rw [geom]; exact hz
    rcases h.pr _ _ hd with h1 | h1
    · exfalso
      apply hne
      refine h.ne j m hj hm ?_
      have h2 : C p (x ^ j * y ^ m) 1 := h1
      have h3 : C p (x ^ j) (x ^ j * (x ^ m * y ^ m)) := by
        have := (C.refl p (x ^ j)).mul (h.xym m)
        rw [Int.mul_one] at this
        exact this.symm
      have h4 : C p (x ^ j * (x ^ m * y ^ m)) (x ^ m) := by
        rw [show x ^ j * (x ^ m * y ^ m) = x ^ m * (x ^ j * y ^ m) by grind]
        have := (C.refl p (x ^ m)).mul h2
        rw [Int.mul_one] at this
        exact this
      exact h3.trans h4
    · have h2 : C p (S (fun k => (x ^ j * y ^ m) ^ k) n) 0 := by unfold C; rw [Int.sub_zero]; exact h1
      have := (C.refl p (l j)).mul h2
      rw [Int.mul_zero] at this
      exact this
  · have h1 : C p (S (fun k => (x ^ m * y ^ m) ^ k) n) (S (fun _ => 1) n) := S_C (fun k _ => by
      have := (h.xym m).pow k
      rw [Int.one_pow] at this
      exact this)
    rw [S_const, Int.mul_one] at h1
    have := (C.refl p (l m)).mul h1
    rw [Int.mul_comm (l m) (n : Int)] at this
    exact this
end Go.Proofs.Ytnhjeelcgfobnaa.Dft
namespace Go.Proofs.Ytnhjeelcgfobnaa
open Go.RowKit Num Dft
set_option maxRecDepth 8000
set_option linter.unusedVariables false

theorem sumM_S {p : Int} (hp : 0 < p) (f : Nat → Int) (n : Nat) : sumM p f n = S f n % p := by
  induction n with
  | zero => show (0 : Int) = 0 % p; rw [Int.zero_emod]
  | succ n ih => show (sumM p f n + f n) % p = (S f n + f n) % p; rw [ih, Int.emod_add_emod]
theorem pwF_C (P R e : Nat) : C (P : Int) (pwF P R e) ((R : Int) ^ e) := by
  unfold pwF
  rw [Int.natCast_emod, Int.natCast_pow]
  exact C.emod _ _
theorem pow_mod_C {p r : Int} {n : Nat} (h : C p (r ^ n) 1) (e : Nat) : C p (r ^ (e % n)) (r ^ e) := by
  have e1 : r ^ e = (r ^ n) ^ (e / n) * r ^ (e % n) := by rw [← Int.pow_mul, ← Int.pow_add, Nat.div_add_mod]
  rw [e1]
  have := (h.pow (e / n)).mul (C.refl p (r ^ (e % n)))
  rw [Int.one_pow, Int.one_mul] at this
  exact this.symm
theorem trF_C {P : Nat} (hP : 0 < P) (l : List Int) {R : Nat} (h : C (P : Int) ((R : Int) ^ l.length) 1) (k : Nat) : C (P : Int) (trF P l (pwF P R) k) (S (fun j => l.getD j 0 * (R : Int) ^ (j * k)) l.length) := by
  unfold trF
  rw [sumM_S (by omega)]
  exact (C.emod _ _).trans (S_C (fun j _ => (C.refl _ _).mul ((pwF_C P R _).trans (pow_mod_C h _))))
theorem C_of_mod {P a b : Nat} (h : a % P = b % P) : C (P : Int) (a : Int) (b : Int) := by
  have h1 := C.emod (P : Int) (a : Int)
  have h2 := C.emod (P : Int) (b : Int)
  rw [← Int.natCast_emod, h, Int.natCast_emod] at h1
  exact h1.symm.trans h2
theorem mod_of_C {P a b : Nat} (h : C (P : Int) (a : Int) (b : Int)) : a % P = b % P := by
  have h1 : ((a : Int) - b) % (P : Int) = 0 := Int.emod_eq_zero_of_dvd h
  have h2 : (a : Int) % P = (b : Int) % P := Int.emod_eq_emod_iff_emod_sub_eq_zero.2 h1
  exact_mod_cast h2
theorem rt_of {P : Nat} {l : List Int} (h : Fit P l) : Rt (P : Int) ((rootN P l.length : Nat) : Int) ((invN P (rootN P l.length) : Nat) : Int) l.length := by
  have h2 := h.pr.1
  have hlt := rootN_lt (P := P) (n := l.length) (by omega)
  have h0 := root_pos h
  have ho := rootN_ord h.pr (Nat.dvd_of_mod_eq_zero h.dv)
  have e1 : 1 % P = 1 := one_mod h.pr
  have hm := invN_mul h.pr h0 hlt
  have hx : C (P : Int) (((rootN P l.length : Nat) : Int) * ((invN P (rootN P l.length) : Nat) : Int)) 1 := by
    rw [← Int.natCast_mul]; exact C_of_mod (b := 1) (hm.trans e1.symm)
  have hn : C (P : Int) (((rootN P l.length : Nat) : Int) ^ l.length) 1 := by
    rw [← Int.natCast_pow]; exact C_of_mod (b := 1) (ho.one.trans e1.symm)
  refine ⟨fun a b hab => h.pr.int_dvd_mul hab, hx, hn, ?_, ?_⟩
  · rw [← Int.natCast_pow]
    refine C_of_mod (b := 1) ?_
    have h3 := pow_mul_one (by omega) hm l.length
    rw [mul_mod_one (ho.one.trans e1.symm)] at h3
    rw [h3, e1]
  · intro i j hi hj hc
    rw [← Int.natCast_pow, ← Int.natCast_pow] at hc
    have hmod := mod_of_C hc
    have key : ∀ i j, i < j → j < l.length → rootN P l.length ^ i % P = rootN P l.length ^ j % P → False := by
      intro i j hij hjn he
      have hd1 : P ∣ rootN P l.length ^ j - rootN P l.length ^ i := dvd_sub_of_mod he.symm
      have e2 : rootN P l.length ^ j - rootN P l.length ^ i = rootN P l.length ^ i * (rootN P l.length ^ (j - i) - 1) := by
        rw [show rootN P l.length ^ j = rootN P l.length ^ i * rootN P l.length ^ (j - i) by rw [← Nat.pow_add]; congr 1; omega, Nat.mul_sub, Nat.mul_one]
      rw [e2] at hd1
      rcases h.pr.dvd_mul hd1 with h5 | h5
      · exact h.pr.not_dvd_lt h0 hlt (h.pr.dvd_pow h5)
      · have h6 := ho.dvd h.pr (show rootN P l.length ^ (j - i) % P = 1 by rw [mod_of_dvd_sub (Nat.pow_pos h0) h5, e1])
        have := Nat.le_of_dvd (by omega) h6
        omega
    rcases Nat.lt_trichotomy i j with h1 | h1 | h1
    · exact (key i j h1 hj hmod).elim
    · exact h1
    · exact (key j i h1 hi hmod.symm).elim
theorem part_C {P : Nat} {l : List Int} (h : Fit P l) : C (P : Int) (((l.length : Nat) : Int) * ((invN P l.length : Nat) : Int)) 1 := by
  have h1 := h.l1
  rw [← Int.natCast_mul]
  exact C_of_mod (b := 1) ((invN_mul h.pr (by omega) (len_lt_P h)).trans (one_mod h.pr).symm)
theorem fit_full {P : Nat} {l : List Int} (h : Fit P l) {f : Nat → Int} (hf : ∀ k, 0 ≤ f k ∧ f k < P) : Fit P (fullL f l.length) := by
  refine ⟨h.pr, h.le, by rw [fullL_len]; exact h.l1, by rw [fullL_len]; exact h.l64, by rw [fullL_len]; exact h.dv, ?_⟩
  intro j hj
  rw [fullL_len] at hj
  rw [fullL_getD _ _ _ _ hj]
  exact hf j
theorem fit_fwd {P : Nat} {l : List Int} (h : Fit P l) : Fit P (fwdL P l) := fit_full h (fun k => trF_bd (by have := h.pr.1; omega) _ _ _)
theorem bkF_bd {P : Nat} (hP : 0 < P) (l : List Int) (k : Nat) : 0 ≤ bkF P l k ∧ bkF P l k < P := ⟨Int.emod_nonneg _ (by omega), Int.emod_lt_of_pos _ (by omega)⟩
theorem fit_bk {P : Nat} {l : List Int} (h : Fit P l) : Fit P (bkL P l) := fit_full h (fun k => bkF_bd (by have := h.pr.1; omega) _ _)
theorem bk_fwd {P : Nat} {l : List Int} (h : Fit P l) : bkS (P : Int) (fwdL P l) = (l, 0) := by
  have h2 := h.pr.1
  have hr := rt_of h
  have hf := fit_fwd h
  unfold bkS
  rw [if_pos (chkL_ok hf)]
  show (bkL P (fwdL P l), (0 : Int)) = _
  congr 1
  unfold bkL
  rw [fwdL_len]
  refine Eq.trans (fullL_congr (g := fun i => l.getD i 0) (fun m hm => ?_)) (fullL_id l)
  refine C.eq (p := (P : Int)) ?_ (bkF_bd (by omega) _ _) (h.el m hm)
  unfold bkF
  rw [fwdL_len]
  refine (C.emod _ _).trans ?_
  have hy : C (P : Int) (((invN P (rootN P l.length) : Nat) : Int) ^ (fwdL P l).length) 1 := by rw [fwdL_len]; exact hr.yn
  have a1 := trF_C (by omega) (fwdL P l) hy m
  rw [fwdL_len] at a1
  have a2 : C (P : Int) (S (fun j => (fwdL P l).getD j 0 * ((invN P (rootN P l.length) : Nat) : Int) ^ (j * m)) l.length) (S (fun k => S (fun j => l.getD j 0 * ((rootN P l.length : Nat) : Int) ^ (j * k)) l.length * ((invN P (rootN P l.length) : Nat) : Int) ^ (k * m)) l.length) :=
    S_C (fun k hk => by
      unfold fwdL
      rw [fullL_getD _ _ _ _ hk]
      exact (trF_C (by omega) l hr.xn k).mul (C.refl _ _))
  have a3 := (a1.trans a2).trans (hr.inverse (fun j => l.getD j 0) hm)
  have a4 := a3.mul (C.refl (P : Int) ((invN P l.length : Nat) : Int))
  refine a4.trans ?_
  have a5 := (part_C h).mul (C.refl (P : Int) (l.getD m 0))
  rw [Int.one_mul] at a5
  refine C.trans (C.of_eq ?_) a5
  grind
theorem fwd_bk {P : Nat} {l : List Int} (h : Fit P l) : fwdS (P : Int) (bkL P l) = (l, 0) := by
  have h2 := h.pr.1
  have hr := rt_of h
  have hf := fit_bk h
  have hbl : (bkL P l).length = l.length := fullL_len _ _
  unfold fwdS
  rw [if_pos (chkL_ok hf)]
  show (fwdL P (bkL P l), (0 : Int)) = _
  congr 1
  unfold fwdL
  rw [hbl]
  refine Eq.trans (fullL_congr (g := fun i => l.getD i 0) (fun m hm => ?_)) (fullL_id l)
  refine C.eq (p := (P : Int)) ?_ (trF_bd (by omega) _ _ _) (h.el m hm)
  have hy : C (P : Int) (((rootN P l.length : Nat) : Int) ^ (bkL P l).length) 1 := by rw [hbl]; exact hr.xn
  have a1 := trF_C (by omega) (bkL P l) hy m
  rw [hbl] at a1
  have a2 : C (P : Int) (S (fun j => (bkL P l).getD j 0 * ((rootN P l.length : Nat) : Int) ^ (j * m)) l.length) (S (fun k => ((invN P l.length : Nat) : Int) * (S (fun j => l.getD j 0 * ((invN P (rootN P l.length) : Nat) : Int) ^ (j * k)) l.length * ((rootN P l.length : Nat) : Int) ^ (k * m))) l.length) :=
    S_C (fun k hk => by
      unfold bkL
      rw [fullL_getD _ _ _ _ hk]
      unfold bkF
      have b1 := ((C.emod (P : Int) _).trans ((trF_C (by omega) l hr.yn k).mul (C.refl (P : Int) ((invN P l.length : Nat) : Int)))).mul (C.refl (P : Int) (((rootN P l.length : Nat) : Int) ^ (k * m)))
      refine b1.trans (C.of_eq ?_)
      grind)
  rw [S_mul] at a2
  have a3 := (a1.trans a2).trans ((C.refl (P : Int) ((invN P l.length : Nat) : Int)).mul (hr.swap.inverse (fun j => l.getD j 0) hm))
  refine a3.trans ?_
  have a5 := (part_C h).mul (C.refl (P : Int) (l.getD m 0))
  rw [Int.one_mul] at a5
  refine C.trans (C.of_eq ?_) a5
  grind
theorem fwd_zero {P : Nat} {l : List Int} (h : Fit P l) : (fwdL P l).getD 0 0 = sumM (P : Int) (fun j => l.getD j 0) l.length := by
  have h2 := h.pr.1
  unfold fwdL
  rw [fullL_getD _ _ _ _ h.l1]
  unfold trF
  refine sumM_congr (fun j _ => ?_)
  rw [Nat.mul_zero, Nat.zero_mod]
  unfold pwF
  rw [Nat.pow_zero, one_mod h.pr]
  exact Int.mul_one _
end Go.Proofs.Ytnhjeelcgfobnaa
namespace Go.Proofs.Ytnhjeelcgfobnaa
open Go.RowKit Num Dft
set_option maxRecDepth 8000
set_option linter.unusedVariables false

theorem set_getD {l : List Int} {k j : Nat} {x : Int} (hk : k < l.length) (hj : j < l.length) : (l.set k x).getD j 0 = if k = j then x else l.getD j 0 := by
  rw [getD_lt _ _ (by simpa using hj), List.getElem_set]
  by_cases e : k = j
  · rw [if_pos e, if_pos e]
  · rw [if_neg e, if_neg e, getD_lt _ _ hj]
/-- the convolution's numbers -/
theorem cvJ_C {P : Nat} {a b st : List Int} {i : Nat} (h1 : 1 ≤ a.length) (hst : st.length = a.length) {t : Nat} (ht : t < a.length) (j : Nat) :
    C (P : Int) ((cvJ P a b i j st).getD t 0) (st.getD t 0 + S (fun j' => if (i + j') % a.length = t then a.getD i 0 * b.getD j' 0 else 0) j) := by
  induction j with
  | zero => exact C.of_eq (by show st.getD t 0 = st.getD t 0 + 0; omega)
  | succ j ih =>
    show C (P : Int) ((cvU P a b i j (cvJ P a b i j st)).getD t 0) (st.getD t 0 + (S (fun j' => if (i + j') % a.length = t then a.getD i 0 * b.getD j' 0 else 0) j + (if (i + j) % a.length = t then a.getD i 0 * b.getD j 0 else 0)))
    have hl : (cvJ P a b i j st).length = a.length := by rw [cvJ_len]; exact hst
    have hm : (i + j) % a.length < a.length := Nat.mod_lt _ (by omega)
    unfold cvU
    rw [set_getD (by rw [hl]; exact hm) (by rw [hl]; exact ht), ← Int.add_assoc]
    by_cases e : (i + j) % a.length = t
    · rw [if_pos e, if_pos e, e]
      exact (C.emod _ _).trans (ih.add (C.refl _ _))
    · rw [if_neg e, if_neg e, Int.add_zero]
      exact ih
theorem cvI_C {P : Nat} {a b : List Int} (h1 : 1 ≤ a.length) {t : Nat} (ht : t < a.length) (i : Nat) :
    C (P : Int) ((cvI P a b i).getD t 0) (S (fun i' => S (fun j' => if (i' + j') % a.length = t then a.getD i' 0 * b.getD j' 0 else 0) b.length) i) := by
  induction i with
  | zero => exact C.of_eq (by show (List.replicate a.length (0 : Int)).getD t 0 = 0; rw [getD_lt _ _ (by simpa using ht)]; simp)
  | succ i ih => exact (cvJ_C h1 (cvI_len P a b i) ht b.length).trans (ih.add (C.refl _ _))

def oneL (n D : Nat) : List Int := (List.replicate n (0 : Int)).set D 1
theorem oneL_len (n D : Nat) : (oneL n D).length = n := by simp [oneL]
theorem oneL_at {n D j : Nat} (hD : D < n) (hj : j < n) : (oneL n D).getD j 0 = if j = D then 1 else 0 := by
  unfold oneL
  rw [set_getD (by simpa using hD) (by simpa using hj)]
  by_cases e : D = j
  · rw [if_pos e, if_pos e.symm]
  · rw [if_neg e, if_neg (fun h => e h.symm), getD_lt _ _ (by simpa using hj)]; simp
noncomputable def tuL (l : List Int) (D : Nat) : List Int := fullL (tuF l D) l.length
theorem tuL_len (l : List Int) (D : Nat) : (tuL l D).length = l.length := fullL_len _ _
theorem tuF_bd {P : Nat} {l : List Int} (h : Fit P l) (D k : Nat) : 0 ≤ tuF l D k ∧ tuF l D k < P := h.el _ (backI_lt h.l1)
theorem fit_tu {P : Nat} {l : List Int} (h : Fit P l) (D : Nat) : Fit P (tuL l D) := fit_full h (tuF_bd h D)
theorem fit_one {P : Nat} {l : List Int} (h : Fit P l) {D : Nat} (hD : D < l.length) : Fit P (oneL l.length D) := by
  have h2 := h.pr.1
  refine ⟨h.pr, h.le, by rw [oneL_len]; exact h.l1, by rw [oneL_len]; exact h.l64, by rw [oneL_len]; exact h.dv, ?_⟩
  intro j hj
  rw [oneL_len] at hj
  rw [oneL_at hD hj]
  split <;> omega
/-- a turned list's number as a sum -/
theorem tuF_S {l : List Int} {D m : Nat} (hD : D < l.length) (hm : m < l.length) : S (fun j => if (j + D) % l.length = m then l.getD j 0 else 0) l.length = tuF l D m := by
  have hb := backI_lt (n := l.length) (D := D) (m := m) (by omega)
  rw [S_one (k := backI l.length D m) hb (fun j hj hne => if_neg (fun e => hne ((backI_iff hD hm hj).2 e.symm).symm))]
  rw [if_pos ((backI_iff hD hm hb).1 rfl).symm]
  rfl
theorem turn_phase {P : Nat} {l : List Int} (h : Fit P l) {D : Nat} (hD : D < l.length) : fwdL P (tuL l D) = fullL (phF P (fwdL P l) D) (fwdL P l).length := by
  have h2 := h.pr.1
  have hr := rt_of h
  have hlen : (fwdL P l).length = l.length := fwdL_len P l
  unfold fwdL at hlen ⊢
  rw [tuL_len, fullL_len]
  refine fullL_congr (fun k hk => ?_)
  refine C.eq (p := (P : Int)) ?_ (trF_bd (by omega) _ _ _) ⟨Int.emod_nonneg _ (by omega), Int.emod_lt_of_pos _ (by omega)⟩
  have hx : C (P : Int) (((rootN P l.length : Nat) : Int) ^ (tuL l D).length) 1 := by rw [tuL_len]; exact hr.xn
  have a1 := trF_C (by omega) (tuL l D) hx k
  rw [tuL_len] at a1
  have a2 : C (P : Int) (S (fun m => (tuL l D).getD m 0 * ((rootN P l.length : Nat) : Int) ^ (m * k)) l.length) (S (fun j => l.getD j 0 * ((rootN P l.length : Nat) : Int) ^ (j * k)) l.length * ((rootN P l.length : Nat) : Int) ^ (D * k)) := by
    have e1 : S (fun m => (tuL l D).getD m 0 * ((rootN P l.length : Nat) : Int) ^ (m * k)) l.length = S (fun j => S (fun m => (if (j + D) % l.length = m then l.getD j 0 else 0) * ((rootN P l.length : Nat) : Int) ^ (m * k)) l.length) l.length := by
      rw [S_swap]
      refine S_congr (fun m hm => ?_)
      unfold tuL
      rw [fullL_getD _ _ _ _ hm, ← tuF_S hD hm, S_mul']
    rw [e1, ← S_mul']
    refine S_C (fun j hj => ?_)
    have hm : (j + D) % l.length < l.length := Nat.mod_lt _ (by omega)
    rw [S_one hm (fun m _ hne => by rw [if_neg (fun e => hne e.symm), Int.zero_mul]), if_pos rfl, Int.mul_assoc]
    refine (C.refl _ _).mul ?_
    rw [← Int.pow_add, ← Nat.add_mul, Int.pow_mul, Int.pow_mul]
    exact (pow_mod_C hr.xn (j + D)).pow k
  refine (a1.trans a2).trans ?_
  unfold phF
  rw [fullL_len, fullL_getD _ _ _ _ hk]
  refine C.symm ((C.emod _ _).trans ?_)
  exact (trF_C (by omega) l hr.xn k).mul ((pwF_C P _ _).trans (pow_mod_C hr.xn _))
theorem rot_neg {d : Int} {n : Nat} (h : 1 ≤ n) : (rotD d n + rotD (-d) n) % n = 0 := by
  have h1 := rotD_cast d h
  have h2 := rotD_cast (-d) h
  have h3 : (((rotD d n + rotD (-d) n) % n : Nat) : Int) = 0 := by
    rw [Int.natCast_emod, Int.natCast_add, ← h1, ← h2, ← Int.add_emod, Int.add_right_neg, Int.zero_emod]
  omega
theorem turn_back {l : List Int} {d : Int} (h : 1 ≤ l.length) : tuL (tuL l (rotD d l.length)) (rotD (-d) l.length) = l := by
  have hD := rotD_lt d h
  have hD' := rotD_lt (-d) h
  have h0 := rot_neg (d := d) h
  generalize rotD d l.length = D at *
  generalize rotD (-d) l.length = D' at *
  unfold tuL
  rw [fullL_len]
  refine Eq.trans (fullL_congr (g := fun i => l.getD i 0) (fun m hm => ?_)) (fullL_id l)
  unfold tuF
  rw [fullL_len]
  have hb := backI_lt (n := l.length) (D := D') (m := m) h
  rw [fullL_getD _ _ _ _ hb]
  have hx : (m + D) % l.length < l.length := Nat.mod_lt _ (by omega)
  have e1 : backI l.length D' m = (m + D) % l.length := by
    rw [backI_iff hD' hm hx, Nat.mod_add_mod, Nat.add_assoc, Nat.add_mod, h0, Nat.add_zero, Nat.mod_mod, Nat.mod_eq_of_lt hm]
  have e2 : backI l.length D (backI l.length D' m) = m := by
    rw [backI_iff hD hb hm]; exact e1
  rw [e2]
theorem conv_one {P : Nat} {l : List Int} (h : Fit P l) {D : Nat} (hD : D < l.length) : cvL P l (oneL l.length D) = tuL l D := by
  have h1 := h.l1
  have h2 := h.pr.1
  unfold cvL
  refine list_ext_getD (d := 0) (by rw [cvI_len, tuL_len]) (fun t ht => ?_)
  rw [cvI_len] at ht
  refine C.eq (p := (P : Int)) ?_ (cvI_InP (by omega) _ t (by rw [cvI_len]; exact ht)) ((fit_tu h D).el t (by rw [tuL_len]; exact ht))
  refine (cvI_C h1 ht _).trans (C.of_eq ?_)
  unfold tuL
  rw [fullL_getD _ _ _ _ ht, ← tuF_S hD ht, oneL_len]
  refine S_congr (fun i hi => ?_)
  rw [S_one (k := D) hD (fun j hj hne => by rw [oneL_at hD hj, if_neg hne, Int.mul_zero]; split <;> rfl), oneL_at hD hD, if_pos rfl, Int.mul_one]
end Go.Proofs.Ytnhjeelcgfobnaa
namespace Go.Proofs.Ytnhjeelcgfobnaa
open Go.RowKit Num Dft
set_option maxRecDepth 8000
set_option linter.unusedVariables false

theorem fit_cv {P : Nat} {a b : List Int} (h : Fit P a) : Fit P (cvL P a b) := by
  have h2 := h.pr.1
  unfold cvL
  refine ⟨h.pr, h.le, by rw [cvI_len]; exact h.l1, by rw [cvI_len]; exact h.l64, by rw [cvI_len]; exact h.dv, ?_⟩
  exact cvI_InP (by omega) _
theorem cv_comm {P : Nat} {a b : List Int} (h : Fit P a) (h' : Fit P b) (hl : a.length = b.length) : cvL P a b = cvL P b a := by
  have h2 := h.pr.1
  refine list_ext_getD (d := 0) (by show (cvI P a b _).length = (cvI P b a _).length; rw [cvI_len, cvI_len, hl]) (fun t ht => ?_)
  have ht' : t < a.length := by have : (cvL P a b).length = a.length := cvI_len P a b _; omega
  refine C.eq (p := (P : Int)) ?_ ((fit_cv h).el t ht) ((fit_cv h').el t (by show t < (cvI P b a _).length; rw [cvI_len, ← hl]; exact ht'))
  refine (cvI_C h.l1 ht' _).trans (C.symm ((cvI_C h'.l1 (by omega) _).trans (C.of_eq ?_)))
  rw [S_swap, ← hl]
  refine S_congr (fun i hi => S_congr (fun j hj => ?_))
  rw [Nat.add_comm j i, Int.mul_comm]
theorem fwd_cv {P : Nat} {a b : List Int} (h : Fit P a) (hl : a.length = b.length) : fwdL P (cvL P a b) = fullL (fun k => (fwdL P a).getD k 0 * (fwdL P b).getD k 0 % (P : Int)) a.length := by
  have h2 := h.pr.1
  have h1 := h.l1
  have hr := rt_of h
  have hcl : (cvL P a b).length = a.length := cvI_len P a b _
  unfold fwdL
  rw [hcl, ← hl]
  refine fullL_congr (fun k hk => ?_)
  refine C.eq (p := (P : Int)) ?_ (trF_bd (by omega) _ _ _) ⟨Int.emod_nonneg _ (by omega), Int.emod_lt_of_pos _ (by omega)⟩
  have hx : C (P : Int) (((rootN P a.length : Nat) : Int) ^ (cvL P a b).length) 1 := by rw [hcl]; exact hr.xn
  have hxb : C (P : Int) (((rootN P a.length : Nat) : Int) ^ b.length) 1 := by rw [← hl]; exact hr.xn
  have a1 := trF_C (by omega) (cvL P a b) hx k
  rw [hcl] at a1
  have a2 : C (P : Int) (S (fun t => (cvL P a b).getD t 0 * ((rootN P a.length : Nat) : Int) ^ (t * k)) a.length) (S (fun t => S (fun i => S (fun j => if (i + j) % a.length = t then a.getD i 0 * b.getD j 0 else 0) b.length) a.length * ((rootN P a.length : Nat) : Int) ^ (t * k)) a.length) :=
    S_C (fun t ht => (cvI_C h1 ht _).mul (C.refl _ _))
  have a3 : S (fun t => S (fun i => S (fun j => if (i + j) % a.length = t then a.getD i 0 * b.getD j 0 else 0) b.length) a.length * ((rootN P a.length : Nat) : Int) ^ (t * k)) a.length = S (fun i => S (fun j => a.getD i 0 * b.getD j 0 * ((rootN P a.length : Nat) : Int) ^ ((i + j) % a.length * k)) b.length) a.length := by
    rw [S_congr (g := fun t => S (fun i => S (fun j => (if (i + j) % a.length = t then a.getD i 0 * b.getD j 0 else 0) * ((rootN P a.length : Nat) : Int) ^ (t * k)) b.length) a.length) (fun t _ => by
      rw [← S_mul']; exact S_congr (fun i _ => by rw [← S_mul'])), S_swap]
    refine S_congr (fun i _ => ?_)
    rw [S_swap]
    refine S_congr (fun j _ => ?_)
    rw [S_one (k := (i + j) % a.length) (Nat.mod_lt _ (by omega)) (fun t _ hne => by rw [if_neg (fun e => hne e.symm), Int.zero_mul]), if_pos rfl]
  have a4 : C (P : Int) (S (fun i => S (fun j => a.getD i 0 * b.getD j 0 * ((rootN P a.length : Nat) : Int) ^ ((i + j) % a.length * k)) b.length) a.length) (S (fun i => a.getD i 0 * ((rootN P a.length : Nat) : Int) ^ (i * k)) a.length * S (fun j => b.getD j 0 * ((rootN P a.length : Nat) : Int) ^ (j * k)) b.length) := by
    rw [← S_mul']
    refine S_C (fun i _ => ?_)
    rw [← S_mul]
    refine S_C (fun j _ => ?_)
    have e : C (P : Int) (((rootN P a.length : Nat) : Int) ^ ((i + j) % a.length * k)) (((rootN P a.length : Nat) : Int) ^ (i * k) * ((rootN P a.length : Nat) : Int) ^ (j * k)) := by
      rw [← Int.pow_add, ← Nat.add_mul, Int.pow_mul, Int.pow_mul]
      exact (pow_mod_C hr.xn (i + j)).pow k
    refine ((C.refl _ _).mul e).trans (C.of_eq ?_)
    grind
  refine (a1.trans a2).trans ((C.of_eq a3).trans (a4.trans ?_))
  refine C.symm ((C.emod _ _).trans ?_)
  rw [fullL_getD _ _ _ _ hk, fullL_getD _ _ _ _ (by omega)]
  exact (trF_C (by omega) a hr.xn k).mul (trF_C (by omega) b hxb k)
theorem fwd_add {P : Nat} {a b : List Int} (h : Fit P a) (hl : a.length = b.length) : fwdL P (fullL (fun k => (a.getD k 0 + b.getD k 0) % (P : Int)) a.length) = fullL (fun k => ((fwdL P a).getD k 0 + (fwdL P b).getD k 0) % (P : Int)) a.length := by
  have h2 := h.pr.1
  have hr := rt_of h
  have hsl := fullL_len (fun k => (a.getD k 0 + b.getD k 0) % (P : Int)) a.length
  unfold fwdL
  rw [hsl, ← hl]
  refine fullL_congr (fun k hk => ?_)
  refine C.eq (p := (P : Int)) ?_ (trF_bd (by omega) _ _ _) ⟨Int.emod_nonneg _ (by omega), Int.emod_lt_of_pos _ (by omega)⟩
  have hx : C (P : Int) (((rootN P a.length : Nat) : Int) ^ (fullL (fun k => (a.getD k 0 + b.getD k 0) % (P : Int)) a.length).length) 1 := by rw [hsl]; exact hr.xn
  have hxb : C (P : Int) (((rootN P a.length : Nat) : Int) ^ b.length) 1 := by rw [← hl]; exact hr.xn
  have a1 := trF_C (by omega) _ hx k
  rw [hsl] at a1
  refine a1.trans (C.symm ((C.emod _ _).trans ?_))
  rw [fullL_getD _ _ _ _ hk, fullL_getD _ _ _ _ (by omega)]
  refine ((trF_C (by omega) a hr.xn k).add (trF_C (by omega) b hxb k)).trans ?_
  rw [← hl, ← S_add]
  refine S_C (fun j hj => ?_)
  rw [fullL_getD _ _ _ _ hj, ← Int.add_mul]
  exact (C.symm (C.emod _ _)).mul (C.refl _ _)
end Go.Proofs.Ytnhjeelcgfobnaa
namespace Go.Proofs.Ytnhjeelcgfobnaa
open Go.RowKit Num Dft
set_option maxRecDepth 8000
set_option linter.unusedVariables false
namespace Crs

/-- The residues of n values. -/
def resL (P n : Nat) (X : Nat → Int) : List Int := fullL (fun k => X k % (P : Int)) n
theorem resL_len (P n : Nat) (X : Nat → Int) : (resL P n X).length = n := fullL_len _ _
theorem resL_at (P : Nat) {n k : Nat} (X : Nat → Int) (h : k < n) : (resL P n X).getD k 0 = X k % (P : Int) := fullL_getD _ _ _ _ h
theorem resL_C (P : Nat) {n k : Nat} (X : Nat → Int) (h : k < n) : C (P : Int) ((resL P n X).getD k 0) (X k) := by
  rw [resL_at P X h]; exact C.emod _ _
theorem resL_congr (P : Nat) {n : Nat} {X Y : Nat → Int} (h : ∀ k, k < n → C (P : Int) (X k) (Y k)) : resL P n X = resL P n Y :=
  fullL_congr fun k hk => Int.emod_eq_emod_iff_emod_sub_eq_zero.2 (Int.emod_eq_zero_of_dvd (h k hk))
/-- The modulus and the length fit. -/
structure Ok (P n : Nat) : Prop where
  pr : Pr P
  le : P ≤ 2000000000
  l1 : 1 ≤ n
  l64 : n ≤ 64
  dv : (P - 1) % n = 0
theorem fit_ok {P : Nat} {l : List Int} (h : Fit P l) : Ok P l.length := ⟨h.pr, h.le, h.l1, h.l64, h.dv⟩
theorem fit_res {P n : Nat} (h : Ok P n) (X : Nat → Int) : Fit P (resL P n X) := by
  have h2 := h.pr.1
  refine ⟨h.pr, h.le, by rw [resL_len]; exact h.l1, by rw [resL_len]; exact h.l64, by rw [resL_len]; exact h.dv, fun k hk => ?_⟩
  rw [resL_len] at hk
  rw [resL_at P X hk]
  exact ⟨Int.emod_nonneg _ (by omega), Int.emod_lt_of_pos _ (by omega)⟩
theorem fit_len {P : Nat} {l l' : List Int} (h : Fit P l) (hl : l'.length = l.length) (he : ∀ j, j < l'.length → 0 ≤ l'.getD j 0 ∧ l'.getD j 0 < P) : Fit P l' :=
  ⟨h.pr, h.le, by rw [hl]; exact h.l1, by rw [hl]; exact h.l64, by rw [hl]; exact h.dv, he⟩
/-- A list in range is the residues of itself. -/
theorem resL_self {P : Nat} {l : List Int} (h : ∀ j, j < l.length → 0 ≤ l.getD j 0 ∧ l.getD j 0 < P) : resL P l.length (fun k => l.getD k 0) = l := by
  unfold resL
  rw [fullL_congr (g := fun k => l.getD k 0) (fun i hi => Int.emod_eq_of_lt (h i hi).1 (h i hi).2), fullL_id]
noncomputable def rt (P n : Nat) : Int := ((rootN P n : Nat) : Int)
theorem rt_n {P n : Nat} (h : Ok P n) : C (P : Int) (rt P n ^ n) 1 := by
  have := (rt_of (fit_res h (fun _ => 0))).xn
  rw [resL_len] at this
  exact this
/-- The transform, up to the modulus. -/
theorem fwd_C {P n : Nat} (h : Ok P n) (X : Nat → Int) {k : Nat} (hk : k < n) : C (P : Int) ((fwdL P (resL P n X)).getD k 0) (S (fun j => X j * rt P n ^ (j * k)) n) := by
  have h2 := h.pr.1
  have hx := rt_n h
  have e : (resL P n X).length = n := resL_len P n X
  unfold fwdL
  rw [fullL_getD _ _ _ _ (by rw [e]; exact hk)]
  have a1 := trF_C (P := P) (R := rootN P (resL P n X).length) (by omega) (resL P n X) (by rw [e]; exact hx) k
  rw [e] at a1 ⊢
  refine a1.trans (S_C fun j hj => (resL_C P X hj).mul (C.refl _ _))
theorem pow_swap {p R : Int} {n u k : Nat} (h : C p (R ^ n) 1) (hu : u ≤ n) (hk : k ≤ n) : C p (R ^ ((n - u) * k)) (R ^ (u * (n - k))) := by
  have e : (n - u) * k + n * u = u * (n - k) + n * k := by
    rw [Nat.sub_mul, Nat.mul_sub, Nat.mul_comm n u]
    have h1 : u * k ≤ n * k := Nat.mul_le_mul_right k hu
    have h2 : u * k ≤ u * n := Nat.mul_le_mul_left u hk
    omega
  have a1 : C p (R ^ ((n - u) * k)) (R ^ ((n - u) * k + n * u)) := by
    rw [Int.pow_add, show R ^ (n * u) = (R ^ n) ^ u from Int.pow_mul]
    have := (C.refl p (R ^ ((n - u) * k))).mul ((h.pow u).symm)
    rw [Int.one_pow, Int.mul_one] at this
    exact this
  have a2 : C p (R ^ (u * (n - k) + n * k)) (R ^ (u * (n - k))) := by
    rw [Int.pow_add, show R ^ (n * k) = (R ^ n) ^ k from Int.pow_mul]
    have := (C.refl p (R ^ (u * (n - k)))).mul (h.pow k)
    rw [Int.one_pow, Int.mul_one] at this
    exact this
  rw [e] at a1
  exact a1.trans a2
/-- The correlation of two lists, going around. -/
def corF (n : Nat) (X Y : Nat → Int) (m : Nat) : Int := S (fun u => X u * Y ((u + m) % n)) n
theorem shift_C {p R : Int} {n u k : Nat} (h : C p (R ^ n) 1) (hu : u < n) (hk : k ≤ n) (Y : Nat → Int) : C p (S (fun m => Y ((u + m) % n) * R ^ (m * k)) n) (R ^ (u * (n - k)) * S (fun v => Y v * R ^ (v * k)) n) := by
  have e1 : S (fun m => Y ((u + m) % n) * R ^ (m * k)) n = S (fun v => S (fun m => if v = (u + m) % n then Y v * R ^ (m * k) else 0) n) n := by
    rw [← S_swap]
    refine S_congr fun m hm => ?_
    rw [S_one (k := (u + m) % n) (Nat.mod_lt _ (by omega)) (fun v _ hne => if_neg hne), if_pos rfl]
  rw [e1, ← S_mul]
  refine S_C fun v hv => ?_
  have hm0 : (v + n - u) % n < n := Nat.mod_lt _ (by omega)
  have hback : (u + (v + n - u) % n) % n = v := by
    rcases Nat.lt_or_ge v u with h1 | h1
    · rw [Nat.mod_eq_of_lt (show v + n - u < n by omega), show u + (v + n - u) = v + n by omega, Nat.add_mod_right, Nat.mod_eq_of_lt hv]
    · rw [show v + n - u = (v - u) + n by omega, Nat.add_mod_right, Nat.mod_eq_of_lt (show v - u < n by omega), show u + (v - u) = v by omega, Nat.mod_eq_of_lt hv]
  rw [S_one (k := (v + n - u) % n) hm0 (fun m hm hne => if_neg fun e => hne ?_), if_pos hback.symm]
  · have a1 : C p (R ^ ((v + n - u) % n * k)) (R ^ (v * k) * R ^ ((n - u) * k)) := by
      rw [← Int.pow_add, ← Nat.add_mul, show v + (n - u) = v + n - u by omega, Int.pow_mul, Int.pow_mul]
      exact (pow_mod_C h _).pow k
    have a2 := a1.trans ((C.refl p (R ^ (v * k))).mul (pow_swap h (Nat.le_of_lt hu) hk))
    refine ((C.refl p (Y v)).mul a2).trans (C.of_eq ?_)
    grind
  · rcases Nat.lt_or_ge (u + m) n with h1 | h1
    · rw [Nat.mod_eq_of_lt h1] at e
      rw [e, show u + m + n - u = m + n by omega, Nat.add_mod_right, Nat.mod_eq_of_lt hm]
    · have e2 : (u + m) % n = u + m - n := by
        rw [Nat.mod_eq_sub_mod h1, Nat.mod_eq_of_lt (by omega)]
      rw [e2] at e
      rw [e, show u + m - n + n - u = m by omega, Nat.mod_eq_of_lt hm]
theorem cor_C {p R : Int} {n k : Nat} (h : C p (R ^ n) 1) (hk : k ≤ n) (X Y : Nat → Int) : C p (S (fun m => corF n X Y m * R ^ (m * k)) n) (S (fun u => X u * R ^ (u * (n - k))) n * S (fun v => Y v * R ^ (v * k)) n) := by
  have e1 : S (fun m => corF n X Y m * R ^ (m * k)) n = S (fun u => X u * S (fun m => Y ((u + m) % n) * R ^ (m * k)) n) n := by
    have e2 : S (fun m => corF n X Y m * R ^ (m * k)) n = S (fun m => S (fun u => X u * (Y ((u + m) % n) * R ^ (m * k))) n) n := S_congr fun m _ => by
      unfold corF
      rw [← S_mul']
      exact S_congr fun u _ => Int.mul_assoc _ _ _
    rw [e2, S_swap]
    exact S_congr fun u _ => by rw [S_mul]
  rw [e1, ← S_mul']
  refine S_C fun u hu => ?_
  have a1 := (C.refl p (X u)).mul (shift_C h hu hk Y)
  refine a1.trans (C.of_eq ?_)
  grind
/-- What a product of spectra has at k. -/
noncomputable def prK (P n : Nat) (X Y : Nat → Int) (k : Nat) : Int := (fwdL P (resL P n X)).getD ((n - k) % n) 0 * (fwdL P (resL P n Y)).getD k 0
theorem prK_C {P n : Nat} (h : Ok P n) (X Y : Nat → Int) {k : Nat} (hk : k < n) : C (P : Int) (prK P n X Y k) (S (fun m => corF n X Y m * rt P n ^ (m * k)) n) := by
  have hx := rt_n h
  refine C.trans ?_ (cor_C hx (Nat.le_of_lt hk) X Y).symm
  unfold prK
  have hk2 : (n - k) % n < n := Nat.mod_lt _ (by omega)
  refine ((fwd_C h X hk2).trans (S_C fun u _ => (C.refl _ _).mul ?_)).mul (fwd_C h Y hk)
  rw [Nat.mul_comm u, Nat.mul_comm u, Int.pow_mul, Int.pow_mul]
  exact (pow_mod_C hx _).pow u
/-- The transform of a sum of correlations is the sum of the products. -/
theorem sum_fwd {P n : Nat} (h : Ok P n) (N : Nat) (c : Nat → Bool) (X Y : Nat → Nat → Int) : fwdL P (resL P n (fun m => S (fun i => if c i = true then corF n (X i) (Y i) m else 0) N)) = fullL (fun k => S (fun i => if c i = true then prK P n (X i) (Y i) k else 0) N % (P : Int)) n := by
  have h2 := h.pr.1
  have hF := fit_fwd (fit_res h (fun m => S (fun i => if c i = true then corF n (X i) (Y i) m else 0) N))
  refine list_ext_getD (d := 0) (by rw [fwdL_len, resL_len, fullL_len]) (fun k hk => ?_)
  have hb := hF.el k hk
  rw [fwdL_len, resL_len] at hk
  rw [fullL_getD _ _ _ _ hk]
  refine C.eq (p := (P : Int)) ?_ hb ⟨Int.emod_nonneg _ (by omega), Int.emod_lt_of_pos _ (by omega)⟩
  refine (fwd_C h _ hk).trans (C.symm ((C.emod _ _).trans ?_))
  have e1 : S (fun j => S (fun i => if c i = true then corF n (X i) (Y i) j else 0) N * rt P n ^ (j * k)) n = S (fun i => if c i = true then S (fun j => corF n (X i) (Y i) j * rt P n ^ (j * k)) n else 0) N := by
    have e2 : S (fun j => S (fun i => if c i = true then corF n (X i) (Y i) j else 0) N * rt P n ^ (j * k)) n = S (fun j => S (fun i => (if c i = true then corF n (X i) (Y i) j else 0) * rt P n ^ (j * k)) N) n := S_congr fun j _ => by rw [← S_mul']
    rw [e2, S_swap]
    refine S_congr fun i _ => ?_
    by_cases hc : c i = true
    · rw [if_pos hc]
      exact S_congr fun j _ => by rw [if_pos hc]
    · rw [if_neg hc, S_congr (g := fun _ => 0) (fun j _ => by rw [if_neg hc, Int.zero_mul]), S_zero]
  rw [e1]
  refine S_C fun i _ => ?_
  by_cases hc : c i = true
  · rw [if_pos hc, if_pos hc]; exact prK_C h (X i) (Y i) hk
  · rw [if_neg hc, if_neg hc]; exact C.refl _ _
/-- What the inverse transform of a sum of products is. -/
theorem sum_back {P n : Nat} (h : Ok P n) (N : Nat) (c : Nat → Bool) (X Y : Nat → Nat → Int) : bkS (P : Int) (fullL (fun k => S (fun i => if c i = true then prK P n (X i) (Y i) k else 0) N % (P : Int)) n) = (resL P n (fun m => S (fun i => if c i = true then corF n (X i) (Y i) m else 0) N), 0) := by
  rw [← sum_fwd h N c X Y]
  exact bk_fwd (fit_res h _)
/-- The signed numbers of residues of small values. -/
theorem sg_res {P n : Nat} (X : Nat → Int) (hX : ∀ k, k < n → -(P : Int) < 2 * X k ∧ 2 * X k < P) {k : Nat} (hk : k < n) : sgF P (resL P n X) k = X k := by
  have h1 := hX k hk
  unfold sgF
  rw [resL_at P X hk]
  rcases Int.lt_or_le (X k) 0 with h2 | h2
  · have e : X k % (P : Int) = X k + P := by
      rw [← Int.add_emod_right, Int.emod_eq_of_lt (by omega) (by omega)]
    rw [e, if_pos (by omega)]
    omega
  · rw [Int.emod_eq_of_lt h2 (by omega), if_neg (by omega)]
theorem S_bd {f : Nat → Int} {n : Nat} {b : Int} (h : ∀ j, j < n → -b ≤ f j ∧ f j ≤ b) : -((n : Int) * b) ≤ S f n ∧ S f n ≤ (n : Int) * b := by
  induction n with
  | zero => simp [S]
  | succ n ih =>
    have h1 := ih (fun j hj => h j (by omega))
    have h2 := h n (by omega)
    have e : ((n + 1 : Nat) : Int) * b = (n : Int) * b + b := by rw [Int.natCast_succ, Int.add_mul, Int.one_mul]
    rw [e, S]
    omega
end Crs
end Go.Proofs.Ytnhjeelcgfobnaa
