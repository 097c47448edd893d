/-
  FourierInverse.
-/
import Derived.Test.YtdcacklochaljaaFouM
import Derived.Test.YtdcacklochaljaaDft
namespace Go.Proofs.Ytdcacklochaljaa
open Go.RowKit Num Dft
set_option linter.unusedVariables false

theorem sumM_S {p : Int} (hp : 0 < p) (f : Nat → Int) (n : Nat) : sumM p f n = S f n % p := by
  induction n with
  | zero => show (0 : Int) = 0 % p; rw [Int.zero_emod]
  | succ n ih => show (sumM p f n + f n) % p = (S f n + f n) % p; rw [ih, Int.emod_add_emod]
theorem pwF_C (P R e : Nat) : C (P : Int) (pwF P R e) ((R : Int) ^ e) := by
  unfold pwF
  rw [Int.natCast_emod, Int.natCast_pow]
  exact C.emod _ _
theorem pow_mod_C {p r : Int} {n : Nat} (h : C p (r ^ n) 1) (e : Nat) : C p (r ^ (e % n)) (r ^ e) := by
  have e1 : r ^ e = (r ^ n) ^ (e / n) * r ^ (e % n) := by rw [← Int.pow_mul, ← Int.pow_add, Nat.div_add_mod]
  rw [e1]
  have := (h.pow (e / n)).mul (C.refl p (r ^ (e % n)))
  rw [Int.one_pow, Int.one_mul] at this
  exact this.symm
theorem trF_C {P : Nat} (hP : 0 < P) (l : List Int) {R : Nat} (h : C (P : Int) ((R : Int) ^ l.length) 1) (k : Nat) : C (P : Int) (trF P l (pwF P R) k) (S (fun j => l.getD j 0 * (R : Int) ^ (j * k)) l.length) := by
  unfold trF
  rw [sumM_S (by omega)]
  exact (C.emod _ _).trans (S_C (fun j _ => (C.refl _ _).mul ((pwF_C P R _).trans (pow_mod_C h _))))
theorem C_of_mod {P a b : Nat} (h : a % P = b % P) : C (P : Int) (a : Int) (b : Int) := by
  have h1 := C.emod (P : Int) (a : Int)
  have h2 := C.emod (P : Int) (b : Int)
  rw [← Int.natCast_emod, h, Int.natCast_emod] at h1
  exact h1.symm.trans h2
theorem mod_of_C {P a b : Nat} (h : C (P : Int) (a : Int) (b : Int)) : a % P = b % P := by
  have h1 : ((a : Int) - b) % (P : Int) = 0 := Int.emod_eq_zero_of_dvd h
  have h2 : (a : Int) % P = (b : Int) % P := Int.emod_eq_emod_iff_emod_sub_eq_zero.2 h1
  exact_mod_cast h2
theorem rt_of {P : Nat} {l : List Int} (h : Fit P l) : Rt (P : Int) ((rootN P l.length : Nat) : Int) ((invN P (rootN P l.length) : Nat) : Int) l.length := by
  have h2 := h.pr.1
  have hlt := rootN_lt (P := P) (n := l.length) (by omega)
  have h0 := root_pos h
  have ho := rootN_ord h.pr (Nat.dvd_of_mod_eq_zero h.dv)
  have e1 : 1 % P = 1 := one_mod h.pr
  have hm := invN_mul h.pr h0 hlt
  have hx : C (P : Int) (((rootN P l.length : Nat) : Int) * ((invN P (rootN P l.length) : Nat) : Int)) 1 := by
    rw [← Int.natCast_mul]; exact C_of_mod (b := 1) (hm.trans e1.symm)
  have hn : C (P : Int) (((rootN P l.length : Nat) : Int) ^ l.length) 1 := by
    rw [← Int.natCast_pow]; exact C_of_mod (b := 1) (ho.one.trans e1.symm)
  refine ⟨fun a b hab => h.pr.int_dvd_mul hab, hx, hn, ?_, ?_⟩
  · rw [← Int.natCast_pow]
    refine C_of_mod (b := 1) ?_
    have h3 := pow_mul_one (by omega) hm l.length
    rw [mul_mod_one (ho.one.trans e1.symm)] at h3
    rw [h3, e1]
  · intro i j hi hj hc
    rw [← Int.natCast_pow, ← Int.natCast_pow] at hc
    have hmod := mod_of_C hc
    have key : ∀ i j, i < j → j < l.length → rootN P l.length ^ i % P = rootN P l.length ^ j % P → False := by
      intro i j hij hjn he
      have hd1 : P ∣ rootN P l.length ^ j - rootN P l.length ^ i := dvd_sub_of_mod he.symm
      have e2 : rootN P l.length ^ j - rootN P l.length ^ i = rootN P l.length ^ i * (rootN P l.length ^ (j - i) - 1) := by
        rw [show rootN P l.length ^ j = rootN P l.length ^ i * rootN P l.length ^ (j - i) by rw [← Nat.pow_add]; congr 1; omega, Nat.mul_sub, Nat.mul_one]
      rw [e2] at hd1
      rcases h.pr.dvd_mul hd1 with h5 | h5
      · exact h.pr.not_dvd_lt h0 hlt (h.pr.dvd_pow h5)
      · have h6 := ho.dvd h.pr (show rootN P l.length ^ (j - i) % P = 1 by rw [mod_of_dvd_sub (Nat.pow_pos h0) h5, e1])
        have := Nat.le_of_dvd (by omega) h6
        omega
    rcases Nat.lt_trichotomy i j with h1 | h1 | h1
    · exact (key i j h1 hj hmod).elim
    · exact h1
    · exact (key j i h1 hi hmod.symm).elim
theorem part_C {P : Nat} {l : List Int} (h : Fit P l) : C (P : Int) (((l.length : Nat) : Int) * ((invN P l.length : Nat) : Int)) 1 := by
  have h1 := h.l1
  rw [← Int.natCast_mul]
  exact C_of_mod (b := 1) ((invN_mul h.pr (by omega) (len_lt_P h)).trans (one_mod h.pr).symm)
theorem fit_full {P : Nat} {l : List Int} (h : Fit P l) {f : Nat → Int} (hf : ∀ k, 0 ≤ f k ∧ f k < P) : Fit P (fullL f l.length) := by
  refine ⟨h.pr, h.le, by rw [fullL_len]; exact h.l1, by rw [fullL_len]; exact h.l64, by rw [fullL_len]; exact h.dv, ?_⟩
  intro j hj
  rw [fullL_len] at hj
  rw [fullL_getD _ _ _ _ hj]
  exact hf j
theorem fit_fwd {P : Nat} {l : List Int} (h : Fit P l) : Fit P (fwdL P l) := fit_full h (fun k => trF_bd (by have := h.pr.1; omega) _ _ _)
theorem bkF_bd {P : Nat} (hP : 0 < P) (l : List Int) (k : Nat) : 0 ≤ bkF P l k ∧ bkF P l k < P := ⟨Int.emod_nonneg _ (by omega), Int.emod_lt_of_pos _ (by omega)⟩
theorem fit_bk {P : Nat} {l : List Int} (h : Fit P l) : Fit P (bkL P l) := fit_full h (fun k => bkF_bd (by have := h.pr.1; omega) _ _)
theorem bk_fwd {P : Nat} {l : List Int} (h : Fit P l) : bkS (P : Int) (fwdL P l) = (l, 0) := by
  have h2 := h.pr.1
  have hr := rt_of h
  have hf := fit_fwd h
  unfold bkS
  rw [if_pos (chkL_ok hf)]
  show (bkL P (fwdL P l), (0 : Int)) = _
  congr 1
  unfold bkL
  rw [fwdL_len]
  refine Eq.trans (fullL_congr (g := fun i => l.getD i 0) (fun m hm => ?_)) (fullL_id l)
  refine C.eq (p := (P : Int)) ?_ (bkF_bd (by omega) _ _) (h.el m hm)
  unfold bkF
  rw [fwdL_len]
  refine (C.emod _ _).trans ?_
  have hy : C (P : Int) (((invN P (rootN P l.length) : Nat) : Int) ^ (fwdL P l).length) 1 := by rw [fwdL_len]; exact hr.yn
  have a1 := trF_C (by omega) (fwdL P l) hy m
  rw [fwdL_len] at a1
  have a2 : C (P : Int) (S (fun j => (fwdL P l).getD j 0 * ((invN P (rootN P l.length) : Nat) : Int) ^ (j * m)) l.length) (S (fun k => S (fun j => l.getD j 0 * ((rootN P l.length : Nat) : Int) ^ (j * k)) l.length * ((invN P (rootN P l.length) : Nat) : Int) ^ (k * m)) l.length) :=
    S_C (fun k hk => by
      unfold fwdL
      rw [fullL_getD _ _ _ _ hk]
      exact (trF_C (by omega) l hr.xn k).mul (C.refl _ _))
  have a3 := (a1.trans a2).trans (hr.inverse (fun j => l.getD j 0) hm)
  have a4 := a3.mul (C.refl (P : Int) ((invN P l.length : Nat) : Int))
  refine a4.trans ?_
  have a5 := (part_C h).mul (C.refl (P : Int) (l.getD m 0))
  rw [Int.one_mul] at a5
  refine C.trans (C.of_eq ?_) a5
  grind
theorem fwd_bk {P : Nat} {l : List Int} (h : Fit P l) : fwdS (P : Int) (bkL P l) = (l, 0) := by
  have h2 := h.pr.1
  have hr := rt_of h
  have hf := fit_bk h
  have hbl : (bkL P l).length = l.length := fullL_len _ _
  unfold fwdS
  rw [if_pos (chkL_ok hf)]
  show (fwdL P (bkL P l), (0 : Int)) = _
  congr 1
  unfold fwdL
  rw [hbl]
  refine Eq.trans (fullL_congr (g := fun i => l.getD i 0) (fun m hm => ?_)) (fullL_id l)
  refine C.eq (p := (P : Int)) ?_ (trF_bd (by omega) _ _ _) (h.el m hm)
  have hy : C (P : Int) (((rootN P l.length : Nat) : Int) ^ (bkL P l).length) 1 := by rw [hbl]; exact hr.xn
  have a1 := trF_C (by omega) (bkL P l) hy m
  rw [hbl] at a1
  have a2 : C (P : Int) (S (fun j => (bkL P l).getD j 0 * ((rootN P l.length : Nat) : Int) ^ (j * m)) l.length) (S (fun k => ((invN P l.length : Nat) : Int) * (S (fun j => l.getD j 0 * ((invN P (rootN P l.length) : Nat) : Int) ^ (j * k)) l.length * ((rootN P l.length : Nat) : Int) ^ (k * m))) l.length) :=
    S_C (fun k hk => by
      unfold bkL
      rw [fullL_getD _ _ _ _ hk]
      unfold bkF
      have b1 := ((C.emod (P : Int) _).trans ((trF_C (by omega) l hr.yn k).mul (C.refl (P : Int) ((invN P l.length : Nat) : Int)))).mul (C.refl (P : Int) (((rootN P l.length : Nat) : Int) ^ (k * m)))
      refine b1.trans (C.of_eq ?_)
      grind)
  rw [S_mul] at a2
  have a3 := (a1.trans a2).trans ((C.refl (P : Int) ((invN P l.length : Nat) : Int)).mul (hr.swap.inverse (fun j => l.getD j 0) hm))
  refine a3.trans ?_
  have a5 := (part_C h).mul (C.refl (P : Int) (l.getD m 0))
  rw [Int.one_mul] at a5
  refine C.trans (C.of_eq ?_) a5
  grind
theorem fwd_zero {P : Nat} {l : List Int} (h : Fit P l) : (fwdL P l).getD 0 0 = sumM (P : Int) (fun j => l.getD j 0) l.length := by
  have h2 := h.pr.1
  unfold fwdL
  rw [fullL_getD _ _ _ _ h.l1]
  unfold trF
  refine sumM_congr (fun j _ => ?_)
  rw [Nat.mul_zero, Nat.zero_mod]
  unfold pwF
  rw [Nat.pow_zero, one_mod h.pr]
  exact Int.mul_one _
end Go.Proofs.Ytdcacklochaljaa
