/-
  Parts of the proof of TopCorrelate: Dft FouN FouP CrsP CrsQ LagSum.
-/
import Derived.Test.YtelkokcnedbmeaaGreatT22
import Derived.Test.YtelkokcnedbmeaaGreatT28
import Derived.Test.YtelkokcnedbmeaaGreatT02
namespace Go.Proofs.YtelkokcnedbmeaaGreat.Dft
set_option maxRecDepth 20000
def S (f : Nat → Int) : Nat → Int
 | 0 => 0
 | n + 1 => S f n + f n
def C (p : Int) (a b : Int) : Prop := p ∣ a - b
theorem C.refl (p a : Int) : C p a a := by unfold C; rw [Int.sub_self]; exact Int.dvd_zero p
theorem C.of_eq {p a b : Int} (h : a = b) : C p a b := by subst h; exact C.refl p a
theorem C.symm {p a b : Int} (h : C p a b) : C p b a := by
 unfold C at *; rw [show b - a = -(a - b) by omega]; exact Int.dvd_neg.2 h
theorem C.trans {p a b c : Int} (h : C p a b) (h' : C p b c) : C p a c := by
 unfold C at *; rw [show a - c = (a - b) + (b - c) by omega]; exact Int.dvd_add h h'
theorem C.add {p a b c d : Int} (h : C p a b) (h' : C p c d) : C p (a + c) (b + d) := by
 unfold C at *; rw [show a + c - (b + d) = (a - b) + (c - d) by omega]; exact Int.dvd_add h h'
theorem C.mul {p a b c d : Int} (h : C p a b) (h' : C p c d) : C p (a * c) (b * d) := by
 unfold C at *
 rw [show a * c - b * d = a * (c - d) + (a - b) * d by grind]
 exact Int.dvd_add (Int.dvd_trans h' (Int.dvd_mul_left _ _)) (Int.dvd_trans h (Int.dvd_mul_right _ _))
theorem C.pow {p a b : Int} (h : C p a b) (n : Nat) : C p (a ^ n) (b ^ n) := by
 induction n with
 | zero => exact C.of_eq (by rw [Int.pow_zero, Int.pow_zero])
 | succ n ih => rw [Int.pow_succ, Int.pow_succ]; exact ih.mul h
theorem C.emod (p a : Int) : C p (a % p) a := by
 unfold C
 rw [show a % p - a = p * (-(a / p)) by have := Int.mul_ediv_add_emod a p; rw [Int.mul_neg]; omega]
 exact Int.dvd_mul_right _ _
theorem C.eq {p a b : Int} (h : C p a b) (ha : 0 ≤ a ∧ a < p) (hb : 0 ≤ b ∧ b < p) : a = b := by
 obtain ⟨c, hc⟩ := h
 have hp : 0 < p := by omega
 have : c = 0 := by
  rcases Int.lt_trichotomy c 0 with h1 | h1 | h1
  ·exfalso
   have : p * c ≤ p * (-1) := Int.mul_le_mul_of_nonneg_left (by omega) (by omega)
   omega
  ·exact h1
  ·exfalso
   have : p * 1 ≤ p * c := Int.mul_le_mul_of_nonneg_left (by omega) (by omega)
   omega
 subst this
 omega
theorem S_congr {f g : Nat → Int} {n : Nat} (h : ∀ j, j < n → f j = g j) : S f n = S g n := by
 induction n with
 | zero => rfl
 | succ n ih => show S f n + f n = S g n + g n; rw [ih (fun j hj => h j (by omega)), h n (by omega)]
theorem S_C {p : Int} {f g : Nat → Int} {n : Nat} (h : ∀ j, j < n → C p (f j) (g j)) : C p (S f n) (S g n) := by
 induction n with
 | zero => exact C.refl _ _
 | succ n ih => exact (ih (fun j hj => h j (by omega))).add (h n (by omega))
theorem S_mul (c : Int) (f : Nat → Int) (n : Nat) : S (fun j => c * f j) n = c * S f n := by
 induction n with
 | zero => show (0 : Int) = c * 0; omega
 | succ n ih => show S (fun j => c * f j) n + c * f n = c * (S f n + f n); rw [ih]; grind
theorem S_mul' (c : Int) (f : Nat → Int) (n : Nat) : S (fun j => f j * c) n = S f n * c := by
 rw [Int.mul_comm, ← S_mul]; exact S_congr (fun j _ => Int.mul_comm _ _)
theorem S_add (f g : Nat → Int) (n : Nat) : S (fun j => f j + g j) n = S f n + S g n := by
 induction n with
 | zero => rfl
 | succ n ih => show S (fun j => f j + g j) n + (f n + g n) = (S f n + f n) + (S g n + g n); rw [ih]; omega
theorem S_zero (n : Nat) : S (fun _ => 0) n = 0 := by
 induction n with
 | zero => rfl
 | succ n ih => show S (fun _ => 0) n + 0 = 0; rw [ih]; rfl
theorem S_swap (f : Nat → Nat → Int) (n m : Nat) : S (fun j => S (fun k => f j k) m) n = S (fun k => S (fun j => f j k) n) m := by
 induction n with
 | zero => show (0 : Int) = S (fun _ => 0) m; rw [S_zero]
 | succ n ih =>
  show S (fun j => S (fun k => f j k) m) n + S (fun k => f n k) m = S (fun k => S (fun j => f j k) n + f n k) m
  rw [ih, S_add]
theorem S_one {f : Nat → Int} {n k : Nat} (hk : k < n) (h : ∀ j, j < n → j ≠ k → f j = 0) : S f n = f k := by
 induction n with
 | zero => omega
 | succ n ih =>
  show S f n + f n = f k
  by_cases e : k = n
  ·subst e
   rw [S_congr (g := fun _ => 0) (fun j hj => h j (by omega) (by omega)), S_zero]; omega
  ·rw [ih (by omega) (fun j hj => h j (by omega)), h n (by omega) (fun e' => e e'.symm)]; omega
theorem S_one_C {p : Int} {f : Nat → Int} {n k : Nat} (hk : k < n) (h : ∀ j, j < n → j ≠ k → C p (f j) 0) : C p (S f n) (f k) := by
 have h1 : C p (S f n) (S (fun j => if j = k then f k else 0) n) := S_C (fun j hj => by
  by_cases e : j = k
  ·subst e; simp only [if_pos]; exact C.refl _ _
  ·simp only [if_neg e]; exact h j hj e)
 refine h1.trans (C.of_eq ?_)
 rw [S_one hk (fun j _ e => if_neg e), if_pos rfl]
theorem S_const (c : Int) (n : Nat) : S (fun _ => c) n = (n : Int) * c := by
 induction n with
 | zero => show (0 : Int) = 0 * c; omega
 | succ n ih => show S (fun _ => c) n + c = _; rw [ih]; grind
theorem geom (z : Int) (n : Nat) : (z - 1) * S (fun k => z ^ k) n = z ^ n - 1 := by
 induction n with
 | zero => show (z - 1) * 0 = z ^ 0 - 1; rw [Int.pow_zero]; omega
 | succ n ih =>
  show (z - 1) * (S (fun k => z ^ k) n + z ^ n) = z ^ (n + 1) - 1
  rw [Int.mul_add, ih, Int.pow_succ]; grind
structure Rt (p x y : Int) (n : Nat) : Prop where
 pr : ∀ a b, p ∣ a * b → p ∣ a ∨ p ∣ b
 xy : C p (x * y) 1
 xn : C p (x ^ n) 1
 yn : C p (y ^ n) 1
 ne : ∀ i j, i < n → j < n → C p (x ^ i) (x ^ j) → i = j
theorem Rt.xym {p x y : Int} {n : Nat} (h : Rt p x y n) (m : Nat) : C p (x ^ m * y ^ m) 1 := by
 rw [← Int.mul_pow]
 have := h.xy.pow m
 rw [Int.one_pow] at this
 exact this
theorem Rt.inverse {p x y : Int} {n : Nat} (h : Rt p x y n) (l : Nat → Int) {m : Nat} (hm : m < n) :
 C p (S (fun k => S (fun j => l j * x ^ (j * k)) n * y ^ (k * m)) n) ((n : Int) * l m) := by
 have e1 : S (fun k => S (fun j => l j * x ^ (j * k)) n * y ^ (k * m)) n = S (fun j => l j * S (fun k => (x ^ j * y ^ m) ^ k) n) n := by
  rw [S_congr (g := fun k => S (fun j => l j * x ^ (j * k) * y ^ (k * m)) n) (fun k _ => (S_mul' _ _ _).symm), S_swap]
  refine S_congr (fun k _ => ?_)
  rw [← S_mul]
  refine S_congr (fun j _ => ?_)
  rw [Int.mul_pow, ← Int.pow_mul, ← Int.pow_mul, Nat.mul_comm j m, Int.mul_assoc]
 rw [e1]
 refine (S_one_C hm (fun j hj hne => ?_)).trans ?_
 ·have hz : C p ((x ^ j * y ^ m) ^ n) 1 := by
   rw [Int.mul_pow, ← Int.pow_mul, ← Int.pow_mul, Nat.mul_comm j n, Nat.mul_comm m n, Int.pow_mul, Int.pow_mul]
   have := (h.xn.pow j).mul (h.yn.pow m)
   rw [Int.one_pow, Int.one_pow] at this
   exact this
  have hd : p ∣ (x ^ j * y ^ m - 1) * S (fun k => (x ^ j * y ^ m) ^ k) n := by rw [geom]; exact hz
  rcases h.pr _ _ hd with h1 | h1
  ·exfalso
   apply hne
   refine h.ne j m hj hm ?_
   have h2 : C p (x ^ j * y ^ m) 1 := h1
   have h3 : C p (x ^ j) (x ^ j * (x ^ m * y ^ m)) := by
    have := (C.refl p (x ^ j)).mul (h.xym m)
    rw [Int.mul_one] at this
    exact this.symm
   have h4 : C p (x ^ j * (x ^ m * y ^ m)) (x ^ m) := by
    rw [show x ^ j * (x ^ m * y ^ m) = x ^ m * (x ^ j * y ^ m) by grind]
    have := (C.refl p (x ^ m)).mul h2
    rw [Int.mul_one] at this
    exact this
   exact h3.trans h4
  ·have h2 : C p (S (fun k => (x ^ j * y ^ m) ^ k) n) 0 := by unfold C; rw [Int.sub_zero]; exact h1
   have := (C.refl p (l j)).mul h2
   rw [Int.mul_zero] at this
   exact this
 ·have h1 : C p (S (fun k => (x ^ m * y ^ m) ^ k) n) (S (fun _ => 1) n) := S_C (fun k _ => by
   have := (h.xym m).pow k
   rw [Int.one_pow] at this
   exact this)
  rw [S_const, Int.mul_one] at h1
  have := (C.refl p (l m)).mul h1
  rw [Int.mul_comm (l m) (n : Int)] at this
  exact this
end Go.Proofs.YtelkokcnedbmeaaGreat.Dft
namespace Go.Proofs.YtelkokcnedbmeaaGreat
open Go.RowKit Num Dft
set_option maxRecDepth 20000
set_option maxRecDepth 8000
set_option linter.unusedVariables false
theorem sumM_S {p : Int} (hp : 0 < p) (f : Nat → Int) (n : Nat) : sumM p f n = S f n % p := by
 induction n with
 | zero => show (0 : Int) = 0 % p; rw [Int.zero_emod]
 | succ n ih => show (sumM p f n + f n) % p = (S f n + f n) % p; rw [ih, Int.emod_add_emod]
theorem pwF_C (P R e : Nat) : C (P : Int) (pwF P R e) ((R : Int) ^ e) := by
 unfold pwF
 rw [Int.natCast_emod, Int.natCast_pow]
 exact C.emod _ _
theorem pow_mod_C {p r : Int} {n : Nat} (h : C p (r ^ n) 1) (e : Nat) : C p (r ^ (e % n)) (r ^ e) := by
 have e1 : r ^ e = (r ^ n) ^ (e / n) * r ^ (e % n) := by rw [← Int.pow_mul, ← Int.pow_add, Nat.div_add_mod]
 rw [e1]
 have := (h.pow (e / n)).mul (C.refl p (r ^ (e % n)))
 rw [Int.one_pow, Int.one_mul] at this
 exact this.symm
theorem trF_C {P : Nat} (hP : 0 < P) (l : List Int) {R : Nat} (h : C (P : Int) ((R : Int) ^ l.length) 1) (k : Nat) : C (P : Int) (trF P l (pwF P R) k) (S (fun j => l.getD j 0 * (R : Int) ^ (j * k)) l.length) := by
 unfold trF
 rw [sumM_S (by omega)]
 exact (C.emod _ _).trans (S_C (fun j _ => (C.refl _ _).mul ((pwF_C P R _).trans (pow_mod_C h _))))
theorem C_of_mod {P a b : Nat} (h : a % P = b % P) : C (P : Int) (a : Int) (b : Int) := by
 have h1 := C.emod (P : Int) (a : Int)
 have h2 := C.emod (P : Int) (b : Int)
 rw [← Int.natCast_emod, h, Int.natCast_emod] at h1
 exact h1.symm.trans h2
theorem mod_of_C {P a b : Nat} (h : C (P : Int) (a : Int) (b : Int)) : a % P = b % P := by
 have h1 : ((a : Int) - b) % (P : Int) = 0 := Int.emod_eq_zero_of_dvd h
 have h2 : (a : Int) % P = (b : Int) % P := Int.emod_eq_emod_iff_emod_sub_eq_zero.2 h1
 exact_mod_cast h2
theorem rt_of {P : Nat} {l : List Int} (h : Fit P l) : Rt (P : Int) ((rootN P l.length : Nat) : Int) ((invN P (rootN P l.length) : Nat) : Int) l.length := by
 have h2 := h.pr.1
 have hlt := rootN_lt (P := P) (n := l.length) (by omega)
 have h0 := root_pos h
 have ho := rootN_ord h.pr (Nat.dvd_of_mod_eq_zero h.dv)
 have e1 : 1 % P = 1 := one_mod h.pr
 have hm := invN_mul h.pr h0 hlt
 have hx : C (P : Int) (((rootN P l.length : Nat) : Int) * ((invN P (rootN P l.length) : Nat) : Int)) 1 := by
  rw [← Int.natCast_mul]; exact C_of_mod (b := 1) (hm.trans e1.symm)
 have hn : C (P : Int) (((rootN P l.length : Nat) : Int) ^ l.length) 1 := by
  rw [← Int.natCast_pow]; exact C_of_mod (b := 1) (ho.one.trans e1.symm)
 refine ⟨fun a b hab => h.pr.int_dvd_mul hab, hx, hn, ?_, ?_⟩
 ·rw [← Int.natCast_pow]
  refine C_of_mod (b := 1) ?_
  have h3 := pow_mul_one (by omega) hm l.length
  rw [mul_mod_one (ho.one.trans e1.symm)] at h3
  rw [h3, e1]
 ·intro i j hi hj hc
  rw [← Int.natCast_pow, ← Int.natCast_pow] at hc
  have hmod := mod_of_C hc
  have key : ∀ i j, i < j → j < l.length → rootN P l.length ^ i % P = rootN P l.length ^ j % P → False := by
   intro i j hij hjn he
   have hd1 : P ∣ rootN P l.length ^ j - rootN P l.length ^ i := dvd_sub_of_mod he.symm
   have e2 : rootN P l.length ^ j - rootN P l.length ^ i = rootN P l.length ^ i * (rootN P l.length ^ (j - i) - 1) := by
    rw [show rootN P l.length ^ j = rootN P l.length ^ i * rootN P l.length ^ (j - i) by rw [← Nat.pow_add]; congr 1; omega, Nat.mul_sub, Nat.mul_one]
   rw [e2] at hd1
   rcases h.pr.dvd_mul hd1 with h5 | h5
   ·exact h.pr.not_dvd_lt h0 hlt (h.pr.dvd_pow h5)
   ·have h6 := ho.dvd h.pr (show rootN P l.length ^ (j - i) % P = 1 by rw [mod_of_dvd_sub (Nat.pow_pos h0) h5, e1])
    have := Nat.le_of_dvd (by omega) h6
    omega
  rcases Nat.lt_trichotomy i j with h1 | h1 | h1
  ·exact (key i j h1 hj hmod).elim
  ·exact h1
  ·exact (key j i h1 hi hmod.symm).elim
theorem part_C {P : Nat} {l : List Int} (h : Fit P l) : C (P : Int) (((l.length : Nat) : Int) * ((invN P l.length : Nat) : Int)) 1 := by
 have h1 := h.l1
 rw [← Int.natCast_mul]
 exact C_of_mod (b := 1) ((invN_mul h.pr (by omega) (len_lt_P h)).trans (one_mod h.pr).symm)
theorem fit_full {P : Nat} {l : List Int} (h : Fit P l) {f : Nat → Int} (hf : ∀ k, 0 ≤ f k ∧ f k < P) : Fit P (fullL f l.length) := by
 refine ⟨h.pr, h.le, by rw [fullL_len]; exact h.l1, by rw [fullL_len]; exact h.l64, by rw [fullL_len]; exact h.dv, ?_⟩
 intro j hj
 rw [fullL_len] at hj
 rw [fullL_getD _ _ _ _ hj]
 exact hf j
theorem fit_fwd {P : Nat} {l : List Int} (h : Fit P l) : Fit P (fwdL P l) := fit_full h (fun k => trF_bd (by have := h.pr.1; omega) _ _ _)
theorem bkF_bd {P : Nat} (hP : 0 < P) (l : List Int) (k : Nat) : 0 ≤ bkF P l k ∧ bkF P l k < P := ⟨Int.emod_nonneg _ (by omega), Int.emod_lt_of_pos _ (by omega)⟩
theorem fit_bk {P : Nat} {l : List Int} (h : Fit P l) : Fit P (bkL P l) := fit_full h (fun k => bkF_bd (by have := h.pr.1; omega) _ _)
theorem bk_fwd {P : Nat} {l : List Int} (h : Fit P l) : bkS (P : Int) (fwdL P l) = (l, 0) := by
 have h2 := h.pr.1
 have hr := rt_of h
 have hf := fit_fwd h
 unfold bkS
 rw [if_pos (chkL_ok hf)]
 show (bkL P (fwdL P l), (0 : Int)) = _
 congr 1
 unfold bkL
 rw [fwdL_len]
 refine Eq.trans (fullL_congr (g := fun i => l.getD i 0) (fun m hm => ?_)) (fullL_id l)
 refine C.eq (p := (P : Int)) ?_ (bkF_bd (by omega) _ _) (h.el m hm)
 unfold bkF
 rw [fwdL_len]
 refine (C.emod _ _).trans ?_
 have hy : C (P : Int) (((invN P (rootN P l.length) : Nat) : Int) ^ (fwdL P l).length) 1 := by rw [fwdL_len]; exact hr.yn
 have a1 := trF_C (by omega) (fwdL P l) hy m
 rw [fwdL_len] at a1
 have a2 : C (P : Int) (S (fun j => (fwdL P l).getD j 0 * ((invN P (rootN P l.length) : Nat) : Int) ^ (j * m)) l.length) (S (fun k => S (fun j => l.getD j 0 * ((rootN P l.length : Nat) : Int) ^ (j * k)) l.length * ((invN P (rootN P l.length) : Nat) : Int) ^ (k * m)) l.length) :=
  S_C (fun k hk => by
   unfold fwdL
   rw [fullL_getD _ _ _ _ hk]
   exact (trF_C (by omega) l hr.xn k).mul (C.refl _ _))
 have a3 := (a1.trans a2).trans (hr.inverse (fun j => l.getD j 0) hm)
 have a4 := a3.mul (C.refl (P : Int) ((invN P l.length : Nat) : Int))
 refine a4.trans ?_
 have a5 := (part_C h).mul (C.refl (P : Int) (l.getD m 0))
 rw [Int.one_mul] at a5
 refine C.trans (C.of_eq ?_) a5
 grind
end Go.Proofs.YtelkokcnedbmeaaGreat
namespace Go.Proofs.YtelkokcnedbmeaaGreat
open Go.RowKit Num Dft
set_option maxRecDepth 20000
set_option maxRecDepth 8000
set_option linter.unusedVariables false
theorem set_getD {l : List Int} {k j : Nat} {x : Int} (hk : k < l.length) (hj : j < l.length) : (l.set k x).getD j 0 = if k = j then x else l.getD j 0 := by
 rw [getD_lt _ _ (by simpa using hj), List.getElem_set]
 by_cases e : k = j
 ·rw [if_pos e, if_pos e]
 ·rw [if_neg e, if_neg e, getD_lt _ _ hj]
end Go.Proofs.YtelkokcnedbmeaaGreat
namespace Go.Proofs.YtelkokcnedbmeaaGreat
open Go.RowKit Num Dft
set_option maxRecDepth 20000
set_option maxRecDepth 8000
set_option linter.unusedVariables false
namespace Crs
def resL (P n : Nat) (X : Nat → Int) : List Int := fullL (fun k => X k % (P : Int)) n
theorem resL_len (P n : Nat) (X : Nat → Int) : (resL P n X).length = n := fullL_len _ _
theorem resL_at (P : Nat) {n k : Nat} (X : Nat → Int) (h : k < n) : (resL P n X).getD k 0 = X k % (P : Int) := fullL_getD _ _ _ _ h
theorem resL_C (P : Nat) {n k : Nat} (X : Nat → Int) (h : k < n) : C (P : Int) ((resL P n X).getD k 0) (X k) := by
 rw [resL_at P X h]; exact C.emod _ _
structure Ok (P n : Nat) : Prop where
 pr : Pr P
 le : P ≤ 2000000000
 l1 : 1 ≤ n
 l64 : n ≤ 64
 dv : (P - 1) % n = 0
theorem fit_res {P n : Nat} (h : Ok P n) (X : Nat → Int) : Fit P (resL P n X) := by
 have h2 := h.pr.1
 refine ⟨h.pr, h.le, by rw [resL_len]; exact h.l1, by rw [resL_len]; exact h.l64, by rw [resL_len]; exact h.dv, fun k hk => ?_⟩
 rw [resL_len] at hk
 rw [resL_at P X hk]
 exact ⟨Int.emod_nonneg _ (by omega), Int.emod_lt_of_pos _ (by omega)⟩
theorem fit_len {P : Nat} {l l' : List Int} (h : Fit P l) (hl : l'.length = l.length) (he : ∀ j, j < l'.length → 0 ≤ l'.getD j 0 ∧ l'.getD j 0 < P) : Fit P l' :=
 ⟨h.pr, h.le, by rw [hl]; exact h.l1, by rw [hl]; exact h.l64, by rw [hl]; exact h.dv, he⟩
noncomputable def rt (P n : Nat) : Int := ((rootN P n : Nat) : Int)
theorem rt_n {P n : Nat} (h : Ok P n) : C (P : Int) (rt P n ^ n) 1 := by
 have := (rt_of (fit_res h (fun _ => 0))).xn
 rw [resL_len] at this
 exact this
theorem fwd_C {P n : Nat} (h : Ok P n) (X : Nat → Int) {k : Nat} (hk : k < n) : C (P : Int) ((fwdL P (resL P n X)).getD k 0) (S (fun j => X j * rt P n ^ (j * k)) n) := by
 have h2 := h.pr.1
 have hx := rt_n h
 have e : (resL P n X).length = n := resL_len P n X
 unfold fwdL
 rw [fullL_getD _ _ _ _ (by rw [e]; exact hk)]
 have a1 := trF_C (P := P) (R := rootN P (resL P n X).length) (by omega) (resL P n X) (by rw [e]; exact hx) k
 rw [e] at a1 ⊢
 refine a1.trans (S_C fun j hj => (resL_C P X hj).mul (C.refl _ _))
theorem pow_swap {p R : Int} {n u k : Nat} (h : C p (R ^ n) 1) (hu : u ≤ n) (hk : k ≤ n) : C p (R ^ ((n - u) * k)) (R ^ (u * (n - k))) := by
 have e : (n - u) * k + n * u = u * (n - k) + n * k := by
  rw [Nat.sub_mul, Nat.mul_sub, Nat.mul_comm n u]
  have h1 : u * k ≤ n * k := Nat.mul_le_mul_right k hu
  have h2 : u * k ≤ u * n := Nat.mul_le_mul_left u hk
  omega
 have a1 : C p (R ^ ((n - u) * k)) (R ^ ((n - u) * k + n * u)) := by
  rw [Int.pow_add, show R ^ (n * u) = (R ^ n) ^ u from Int.pow_mul]
  have := (C.refl p (R ^ ((n - u) * k))).mul ((h.pow u).symm)
  rw [Int.one_pow, Int.mul_one] at this
  exact this
 have a2 : C p (R ^ (u * (n - k) + n * k)) (R ^ (u * (n - k))) := by
  rw [Int.pow_add, show R ^ (n * k) = (R ^ n) ^ k from Int.pow_mul]
  have := (C.refl p (R ^ (u * (n - k)))).mul (h.pow k)
  rw [Int.one_pow, Int.mul_one] at this
  exact this
 rw [e] at a1
 exact a1.trans a2
def corF (n : Nat) (X Y : Nat → Int) (m : Nat) : Int := S (fun u => X u * Y ((u + m) % n)) n
theorem shift_C {p R : Int} {n u k : Nat} (h : C p (R ^ n) 1) (hu : u < n) (hk : k ≤ n) (Y : Nat → Int) : C p (S (fun m => Y ((u + m) % n) * R ^ (m * k)) n) (R ^ (u * (n - k)) * S (fun v => Y v * R ^ (v * k)) n) := by
 have e1 : S (fun m => Y ((u + m) % n) * R ^ (m * k)) n = S (fun v => S (fun m => if v = (u + m) % n then Y v * R ^ (m * k) else 0) n) n := by
  rw [← S_swap]
  refine S_congr fun m hm => ?_
  rw [S_one (k := (u + m) % n) (Nat.mod_lt _ (by omega)) (fun v _ hne => if_neg hne), if_pos rfl]
 rw [e1, ← S_mul]
 refine S_C fun v hv => ?_
 have hm0 : (v + n - u) % n < n := Nat.mod_lt _ (by omega)
 have hback : (u + (v + n - u) % n) % n = v := by
  rcases Nat.lt_or_ge v u with h1 | h1
  ·rw [Nat.mod_eq_of_lt (show v + n - u < n by omega), show u + (v + n - u) = v + n by omega, Nat.add_mod_right, Nat.mod_eq_of_lt hv]
  ·rw [show v + n - u = (v - u) + n by omega, Nat.add_mod_right, Nat.mod_eq_of_lt (show v - u < n by omega), show u + (v - u) = v by omega, Nat.mod_eq_of_lt hv]
 rw [S_one (k := (v + n - u) % n) hm0 (fun m hm hne => if_neg fun e => hne ?_), if_pos hback.symm]
 ·have a1 : C p (R ^ ((v + n - u) % n * k)) (R ^ (v * k) * R ^ ((n - u) * k)) := by
   rw [← Int.pow_add, ← Nat.add_mul, show v + (n - u) = v + n - u by omega, Int.pow_mul, Int.pow_mul]
   exact (pow_mod_C h _).pow k
  have a2 := a1.trans ((C.refl p (R ^ (v * k))).mul (pow_swap h (Nat.le_of_lt hu) hk))
  refine ((C.refl p (Y v)).mul a2).trans (C.of_eq ?_)
  grind
 ·rcases Nat.lt_or_ge (u + m) n with h1 | h1
  ·rw [Nat.mod_eq_of_lt h1] at e
   rw [e, show u + m + n - u = m + n by omega, Nat.add_mod_right, Nat.mod_eq_of_lt hm]
  ·have e2 : (u + m) % n = u + m - n := by
    rw [Nat.mod_eq_sub_mod h1, Nat.mod_eq_of_lt (by omega)]
   rw [e2] at e
   rw [e, show u + m - n + n - u = m by omega, Nat.mod_eq_of_lt hm]
theorem cor_C {p R : Int} {n k : Nat} (h : C p (R ^ n) 1) (hk : k ≤ n) (X Y : Nat → Int) : C p (S (fun m => corF n X Y m * R ^ (m * k)) n) (S (fun u => X u * R ^ (u * (n - k))) n * S (fun v => Y v * R ^ (v * k)) n) := by
 have e1 : S (fun m => corF n X Y m * R ^ (m * k)) n = S (fun u => X u * S (fun m => Y ((u + m) % n) * R ^ (m * k)) n) n := by
  have e2 : S (fun m => corF n X Y m * R ^ (m * k)) n = S (fun m => S (fun u => X u * (Y ((u + m) % n) * R ^ (m * k))) n) n := S_congr fun m _ => by
   unfold corF
   rw [← S_mul']
   exact S_congr fun u _ => Int.mul_assoc _ _ _
  rw [e2, S_swap]
  exact S_congr fun u _ => by rw [S_mul]
 rw [e1, ← S_mul']
 refine S_C fun u hu => ?_
 have a1 := (C.refl p (X u)).mul (shift_C h hu hk Y)
 refine a1.trans (C.of_eq ?_)
 grind
noncomputable def prK (P n : Nat) (X Y : Nat → Int) (k : Nat) : Int := (fwdL P (resL P n X)).getD ((n - k) % n) 0 * (fwdL P (resL P n Y)).getD k 0
theorem prK_C {P n : Nat} (h : Ok P n) (X Y : Nat → Int) {k : Nat} (hk : k < n) : C (P : Int) (prK P n X Y k) (S (fun m => corF n X Y m * rt P n ^ (m * k)) n) := by
 have hx := rt_n h
 refine C.trans ?_ (cor_C hx (Nat.le_of_lt hk) X Y).symm
 unfold prK
 have hk2 : (n - k) % n < n := Nat.mod_lt _ (by omega)
 refine ((fwd_C h X hk2).trans (S_C fun u _ => (C.refl _ _).mul ?_)).mul (fwd_C h Y hk)
 rw [Nat.mul_comm u, Nat.mul_comm u, Int.pow_mul, Int.pow_mul]
 exact (pow_mod_C hx _).pow u
theorem sum_fwd {P n : Nat} (h : Ok P n) (N : Nat) (c : Nat → Bool) (X Y : Nat → Nat → Int) : fwdL P (resL P n (fun m => S (fun i => if c i = true then corF n (X i) (Y i) m else 0) N)) = fullL (fun k => S (fun i => if c i = true then prK P n (X i) (Y i) k else 0) N % (P : Int)) n := by
 have h2 := h.pr.1
 have hF := fit_fwd (fit_res h (fun m => S (fun i => if c i = true then corF n (X i) (Y i) m else 0) N))
 refine list_ext_getD (d := 0) (by rw [fwdL_len, resL_len, fullL_len]) (fun k hk => ?_)
 have hb := hF.el k hk
 rw [fwdL_len, resL_len] at hk
 rw [fullL_getD _ _ _ _ hk]
 refine C.eq (p := (P : Int)) ?_ hb ⟨Int.emod_nonneg _ (by omega), Int.emod_lt_of_pos _ (by omega)⟩
 refine (fwd_C h _ hk).trans (C.symm ((C.emod _ _).trans ?_))
 have e1 : S (fun j => S (fun i => if c i = true then corF n (X i) (Y i) j else 0) N * rt P n ^ (j * k)) n = S (fun i => if c i = true then S (fun j => corF n (X i) (Y i) j * rt P n ^ (j * k)) n else 0) N := by
  have e2 : S (fun j => S (fun i => if c i = true then corF n (X i) (Y i) j else 0) N * rt P n ^ (j * k)) n = S (fun j => S (fun i => (if c i = true then corF n (X i) (Y i) j else 0) * rt P n ^ (j * k)) N) n := S_congr fun j _ => by rw [← S_mul']
  rw [e2, S_swap]
  refine S_congr fun i _ => ?_
  by_cases hc : c i = true
  ·rw [if_pos hc]
   exact S_congr fun j _ => by rw [if_pos hc]
  ·rw [if_neg hc, S_congr (g := fun _ => 0) (fun j _ => by rw [if_neg hc, Int.zero_mul]), S_zero]
 rw [e1]
 refine S_C fun i _ => ?_
 by_cases hc : c i = true
 ·rw [if_pos hc, if_pos hc]; exact prK_C h (X i) (Y i) hk
 ·rw [if_neg hc, if_neg hc]; exact C.refl _ _
theorem sum_back {P n : Nat} (h : Ok P n) (N : Nat) (c : Nat → Bool) (X Y : Nat → Nat → Int) : bkS (P : Int) (fullL (fun k => S (fun i => if c i = true then prK P n (X i) (Y i) k else 0) N % (P : Int)) n) = (resL P n (fun m => S (fun i => if c i = true then corF n (X i) (Y i) m else 0) N), 0) := by
 rw [← sum_fwd h N c X Y]
 exact bk_fwd (fit_res h _)
theorem sg_res {P n : Nat} (X : Nat → Int) (hX : ∀ k, k < n → -(P : Int) < 2 * X k ∧ 2 * X k < P) {k : Nat} (hk : k < n) : sgF P (resL P n X) k = X k := by
 have h1 := hX k hk
 unfold sgF
 rw [resL_at P X hk]
 rcases Int.lt_or_le (X k) 0 with h2 | h2
 ·have e : X k % (P : Int) = X k + P := by
   rw [← Int.add_emod_right, Int.emod_eq_of_lt (by omega) (by omega)]
  rw [e, if_pos (by omega)]
  omega
 ·rw [Int.emod_eq_of_lt h2 (by omega), if_neg (by omega)]
theorem S_bd {f : Nat → Int} {n : Nat} {b : Int} (h : ∀ j, j < n → -b ≤ f j ∧ f j ≤ b) : -((n : Int) * b) ≤ S f n ∧ S f n ≤ (n : Int) * b := by
 induction n with
 | zero => simp [S]
 | succ n ih =>
  have h1 := ih (fun j hj => h j (by omega))
  have h2 := h n (by omega)
  have e : ((n + 1 : Nat) : Int) * b = (n : Int) * b + b := by rw [Int.natCast_succ, Int.add_mul, Int.one_mul]
  rw [e, S]
  omega
end Crs
end Go.Proofs.YtelkokcnedbmeaaGreat
namespace Go.Proofs.YtelkokcnedbmeaaGreat
open Go.RowKit Num Dft
set_option maxRecDepth 20000
set_option linter.unusedVariables false
namespace Crs
theorem S_split (f : Nat → Int) (n m : Nat) : S f (n + m) = S f n + S (fun i => f (n + i)) m := by
 induction m with
 | zero => simp [S]
 | succ m ih => rw [← Nat.add_assoc, S, S, ih]; omega
theorem S_null {f : Nat → Int} {n : Nat} (h : ∀ j, j < n → f j = 0) : S f n = 0 := by
 rw [S_congr (g := fun _ => 0) h, S_zero]
theorem S_past {f : Nat → Int} {n m : Nat} (hnm : n ≤ m) (h : ∀ j, n ≤ j → j < m → f j = 0) : S f m = S f n := by
 obtain ⟨r, rfl⟩ := Nat.le.dest hnm
 rw [S_split, S_null (fun j hj => h (n + j) (by omega) (by omega))]
 omega
theorem S_block (g : Nat → Int) (k A : Nat) : S (fun i => S (fun u => g (k * i + u)) k) A = S g (k * A) := by
 induction A with
 | zero => rfl
 | succ A ih => rw [S, ih, Nat.mul_succ, S_split]
def yI (ys : List Int) (z : Int) : Int := if 0 ≤ z then ys.getD z.toNat 0 else 0
theorem getD_out {xs : List Int} {k : Nat} (h : xs.length ≤ k) : xs.getD k 0 = 0 := by
 rw [List.getD_eq_getElem?_getD, List.getElem?_eq_none h]; rfl
theorem yI_in {ys : List Int} {z : Int} (h : yI ys z ≠ 0) : 0 ≤ z ∧ z < ys.length := by
 unfold yI at h
 split at h
 ·rename_i h0
  refine ⟨h0, ?_⟩
  rcases Nat.lt_or_ge z.toNat ys.length with h1 | h1
  ·omega
  ·exact absurd (getD_out h1) h
 ·exact absurd rfl h
def pcF (xs : List Int) (i u : Nat) : Int := if u < 32 then xs.getD (32 * i + u) 0 else 0
def byF (xs ys : List Int) (A B : Nat) (b : Int) (m : Nat) : Int := S (fun i => if 0 ≤ (i : Int) + b ∧ (i : Int) + b < B then corF 64 (pcF xs i) (pcF ys ((i : Int) + b).toNat) m else 0) A
def lagI (k : Nat) (b : Int) : Int := if 32 ≤ k then (k : Int) + 32 * b - 64 else (k : Int) + 32 * b
def spF (xs ys : List Int) (A B : Nat) (L b : Int) : Int := S (fun k => if lagI k b = L then byF xs ys A B b k else 0) 64
theorem cor_piece {xs ys : List Int} {i j k : Nat} (hk : k < 64) {L b : Int} (hL : lagI k b = L) (hj : (i : Int) + b = j) : corF 64 (pcF xs i) (pcF ys j) k = S (fun u => xs.getD (32 * i + u) 0 * (if 0 ≤ (u : Int) + L - 32 * b ∧ (u : Int) + L - 32 * b < 32 then yI ys (32 * i + u + L) else 0)) 32 := by
 unfold corF
 rw [S_past (n := 32) (by omega) (fun u h1 _ => by unfold pcF; rw [if_neg (by omega), Int.zero_mul])]
 refine S_congr fun u hu => ?_
 have e1 : pcF xs i u = xs.getD (32 * i + u) 0 := by unfold pcF; rw [if_pos hu]
 rw [e1]
 congr 1
 unfold lagI at hL
 by_cases h32 : 32 ≤ k
 ·rw [if_pos h32] at hL
  rcases Nat.lt_or_ge (u + k) 64 with h1 | h1
  ·rw [Nat.mod_eq_of_lt h1, if_neg (by omega)]
   unfold pcF
   rw [if_neg (by omega)]
  ·have e2 : (u + k) % 64 = u + k - 64 := by omega
   rw [e2, if_pos (by omega)]
   unfold pcF yI
   rw [if_pos (by omega), if_pos (by omega)]
   congr 1
   omega
 ·rw [if_neg h32] at hL
  rw [Nat.mod_eq_of_lt (show u + k < 64 by omega)]
  unfold pcF
  by_cases h1 : u + k < 32
  ·rw [if_pos h1, if_pos (by omega)]
   unfold yI
   rw [if_pos (by omega)]
   congr 1
   omega
  ·rw [if_neg h1, if_neg (by omega)]
def spI (xs ys : List Int) (A B : Nat) (L b : Int) : Int := S (fun i => S (fun u => xs.getD (32 * i + u) 0 * (if (0 ≤ (i : Int) + b ∧ (i : Int) + b < B) ∧ 0 ≤ (u : Int) + L - 32 * b ∧ (u : Int) + L - 32 * b < 32 then yI ys (32 * i + u + L) else 0)) 32) A
theorem spF_I (xs ys : List Int) (A B : Nat) (L b : Int) : spF xs ys A B L b = spI xs ys A B L b := by
 unfold spF spI
 by_cases hr : -32 ≤ L - 32 * b ∧ L - 32 * b ≤ 31
 ·obtain ⟨k0, hk0, hL⟩ : ∃ k0 : Nat, k0 < 64 ∧ lagI k0 b = L := by
   by_cases h0 : 0 ≤ L - 32 * b
   ·exact ⟨(L - 32 * b).toNat, by omega, by unfold lagI; rw [if_neg (by omega)]; omega⟩
   ·exact ⟨(L - 32 * b + 64).toNat, by omega, by unfold lagI; rw [if_pos (by omega)]; omega⟩
  rw [S_one hk0 (fun k hk hne => if_neg fun e => hne ?_), if_pos hL]
  ·unfold byF
   refine S_congr fun i hi => ?_
   by_cases hc : 0 ≤ (i : Int) + b ∧ (i : Int) + b < B
   ·rw [if_pos hc, cor_piece hk0 hL (show (i : Int) + b = (((i : Int) + b).toNat : Nat) by omega)]
    refine S_congr fun u _ => ?_
    congr 1
    by_cases h1 : 0 ≤ (u : Int) + L - 32 * b ∧ (u : Int) + L - 32 * b < 32
    ·rw [if_pos h1, if_pos ⟨hc, h1⟩]
    ·rw [if_neg h1, if_neg (fun h => h1 h.2)]
   ·rw [if_neg hc, S_null fun u _ => by rw [if_neg (fun h => hc h.1), Int.mul_zero]]
  ·unfold lagI at e hL
   split at e <;> split at hL <;> omega
 ·rw [S_null fun k hk => if_neg fun e => hr ?_, S_null fun i _ => S_null fun u hu => by rw [if_neg (by omega), Int.mul_zero]]
  unfold lagI at e
  split at e <;> omega
theorem spread_law (xs ys : List Int) {A B : Nat} (hA : xs.length ≤ 32 * A) (hB : ys.length ≤ 32 * B) (L : Int) :
 S (fun n => spF xs ys A B L ((n : Int) + 1 - A)) (A + B - 1) = S (fun t => xs.getD t 0 * yI ys (t + L)) xs.length := by
 rw [S_congr (fun n _ => spF_I xs ys A B L _)]
 unfold spI
 rw [S_swap]
 have e1 : ∀ i, i < A → S (fun n => S (fun u => xs.getD (32 * i + u) 0 * (if (0 ≤ (i : Int) + ((n : Int) + 1 - A) ∧ (i : Int) + ((n : Int) + 1 - A) < B) ∧ 0 ≤ (u : Int) + L - 32 * ((n : Int) + 1 - A) ∧ (u : Int) + L - 32 * ((n : Int) + 1 - A) < 32 then yI ys (32 * i + u + L) else 0)) 32) (A + B - 1) = S (fun u => (fun t : Nat => xs.getD t 0 * yI ys (t + L)) (32 * i + u)) 32 := by
  intro i hi
  rw [S_swap]
  refine S_congr fun u hu => ?_
  rw [S_mul]
  simp only
  have e0 : ((32 * i + u : Nat) : Int) + L = 32 * i + u + L := by omega
  rw [e0]
  congr 1
  by_cases hz : yI ys (32 * i + u + L) = 0
  ·rw [hz, S_null]
   intro n _
   split <;> rfl
  ·obtain ⟨h1, h2⟩ := yI_in hz
   have hj : (32 * (i : Int) + u + L) / 32 < B := by omega
   have hj0 : 0 ≤ (32 * (i : Int) + u + L) / 32 := by omega
   rw [S_one (k := ((32 * (i : Int) + u + L) / 32 - i + A - 1).toNat) (by omega) (fun n hn hne => if_neg fun h => hne (by omega)), if_pos (by omega)]
 rw [S_congr e1, S_block (fun t : Nat => xs.getD t 0 * yI ys (t + L)) 32 A]
 exact S_past hA fun t h1 _ => by rw [getD_out h1, Int.zero_mul]
theorem cor_bd {xs ys : List Int} {b : Int} (hb : 0 ≤ b) (h : ∀ i k, -b ≤ xs.getD i 0 * ys.getD k 0 ∧ xs.getD i 0 * ys.getD k 0 ≤ b) (i j k : Nat) : -(32 * b) ≤ corF 64 (pcF xs i) (pcF ys j) k ∧ corF 64 (pcF xs i) (pcF ys j) k ≤ 32 * b := by
 unfold corF
 rw [S_past (n := 32) (by omega) (fun u h1 _ => by unfold pcF; rw [if_neg (by omega), Int.zero_mul])]
 have := S_bd (f := fun u => pcF xs i u * pcF ys j ((u + k) % 64)) (n := 32) (b := b) (fun u hu => by
  unfold pcF
  rw [if_pos hu]
  split
  ·exact h _ _
  ·rw [Int.mul_zero]; omega)
 exact this
theorem by_bd {xs ys : List Int} {b : Int} (hb : 0 ≤ b) (h : ∀ i k, -b ≤ xs.getD i 0 * ys.getD k 0 ∧ xs.getD i 0 * ys.getD k 0 ≤ b) (A B : Nat) (d : Int) (k : Nat) : -((A : Int) * (32 * b)) ≤ byF xs ys A B d k ∧ byF xs ys A B d k ≤ (A : Int) * (32 * b) := by
 unfold byF
 refine S_bd fun i _ => ?_
 split
 ·exact cor_bd hb h _ _ _
 ·omega
end Crs
end Go.Proofs.YtelkokcnedbmeaaGreat
namespace Go.Proofs.YtelkokcnedbmeaaGreat
set_option linter.unusedVariables false
namespace Lagw
set_option maxRecDepth 20000
theorem nz_01 (x : Int) : nz x = 0 ∨ nz x = 1 := by unfold nz; split <;> simp
end Lagw
end Go.Proofs.YtelkokcnedbmeaaGreat
