/-
  Plain: the transform of a convolution, of a sum.
-/
import Derived.Test.YtdcacklochaljaaFouP
namespace Go.Proofs.Ytdcacklochaljaa
open Go.RowKit Num Dft
set_option linter.unusedVariables false

theorem fit_cv {P : Nat} {a b : List Int} (h : Fit P a) : Fit P (cvL P a b) := by
  have h2 := h.pr.1
  unfold cvL
  refine ⟨h.pr, h.le, by rw [cvI_len]; exact h.l1, by rw [cvI_len]; exact h.l64, by rw [cvI_len]; exact h.dv, ?_⟩
  exact cvI_InP (by omega) _
theorem cv_comm {P : Nat} {a b : List Int} (h : Fit P a) (h' : Fit P b) (hl : a.length = b.length) : cvL P a b = cvL P b a := by
  have h2 := h.pr.1
  refine list_ext_getD (d := 0) (by show (cvI P a b _).length = (cvI P b a _).length; rw [cvI_len, cvI_len, hl]) (fun t ht => ?_)
  have ht' : t < a.length := by have : (cvL P a b).length = a.length := cvI_len P a b _; omega
  refine C.eq (p := (P : Int)) ?_ ((fit_cv h).el t ht) ((fit_cv h').el t (by show t < (cvI P b a _).length; rw [cvI_len, ← hl]; exact ht'))
  refine (cvI_C h.l1 ht' _).trans (C.symm ((cvI_C h'.l1 (by omega) _).trans (C.of_eq ?_)))
  rw [S_swap, ← hl]
  refine S_congr (fun i hi => S_congr (fun j hj => ?_))
  rw [Nat.add_comm j i, Int.mul_comm]
theorem fwd_cv {P : Nat} {a b : List Int} (h : Fit P a) (hl : a.length = b.length) : fwdL P (cvL P a b) = fullL (fun k => (fwdL P a).getD k 0 * (fwdL P b).getD k 0 % (P : Int)) a.length := by
  have h2 := h.pr.1
  have h1 := h.l1
  have hr := rt_of h
  have hcl : (cvL P a b).length = a.length := cvI_len P a b _
  unfold fwdL
  rw [hcl, ← hl]
  refine fullL_congr (fun k hk => ?_)
  refine C.eq (p := (P : Int)) ?_ (trF_bd (by omega) _ _ _) ⟨Int.emod_nonneg _ (by omega), Int.emod_lt_of_pos _ (by omega)⟩
  have hx : C (P : Int) (((rootN P a.length : Nat) : Int) ^ (cvL P a b).length) 1 := by rw [hcl]; exact hr.xn
  have hxb : C (P : Int) (((rootN P a.length : Nat) : Int) ^ b.length) 1 := by rw [← hl]; exact hr.xn
  have a1 := trF_C (by omega) (cvL P a b) hx k
  rw [hcl] at a1
  have a2 : C (P : Int) (S (fun t => (cvL P a b).getD t 0 * ((rootN P a.length : Nat) : Int) ^ (t * k)) a.length) (S (fun t => S (fun i => S (fun j => if (i + j) % a.length = t then a.getD i 0 * b.getD j 0 else 0) b.length) a.length * ((rootN P a.length : Nat) : Int) ^ (t * k)) a.length) :=
    S_C (fun t ht => (cvI_C h1 ht _).mul (C.refl _ _))
  have a3 : S (fun t => S (fun i => S (fun j => if (i + j) % a.length = t then a.getD i 0 * b.getD j 0 else 0) b.length) a.length * ((rootN P a.length : Nat) : Int) ^ (t * k)) a.length = S (fun i => S (fun j => a.getD i 0 * b.getD j 0 * ((rootN P a.length : Nat) : Int) ^ ((i + j) % a.length * k)) b.length) a.length := by
    rw [S_congr (g := fun t => S (fun i => S (fun j => (if (i + j) % a.length = t then a.getD i 0 * b.getD j 0 else 0) * ((rootN P a.length : Nat) : Int) ^ (t * k)) b.length) a.length) (fun t _ => by
      rw [← S_mul']; exact S_congr (fun i _ => by rw [← S_mul'])), S_swap]
    refine S_congr (fun i _ => ?_)
    rw [S_swap]
    refine S_congr (fun j _ => ?_)
    rw [S_one (k := (i + j) % a.length) (Nat.mod_lt _ (by omega)) (fun t _ hne => by rw [if_neg (fun e => hne e.symm), Int.zero_mul]), if_pos rfl]
  have a4 : C (P : Int) (S (fun i => S (fun j => a.getD i 0 * b.getD j 0 * ((rootN P a.length : Nat) : Int) ^ ((i + j) % a.length * k)) b.length) a.length) (S (fun i => a.getD i 0 * ((rootN P a.length : Nat) : Int) ^ (i * k)) a.length * S (fun j => b.getD j 0 * ((rootN P a.length : Nat) : Int) ^ (j * k)) b.length) := by
    rw [← S_mul']
    refine S_C (fun i _ => ?_)
    rw [← S_mul]
    refine S_C (fun j _ => ?_)
    have e : C (P : Int) (((rootN P a.length : Nat) : Int) ^ ((i + j) % a.length * k)) (((rootN P a.length : Nat) : Int) ^ (i * k) * ((rootN P a.length : Nat) : Int) ^ (j * k)) := by
      rw [← Int.pow_add, ← Nat.add_mul, Int.pow_mul, Int.pow_mul]
      exact (pow_mod_C hr.xn (i + j)).pow k
    refine ((C.refl _ _).mul e).trans (C.of_eq ?_)
    grind
  refine (a1.trans a2).trans ((C.of_eq a3).trans (a4.trans ?_))
  refine C.symm ((C.emod _ _).trans ?_)
  rw [fullL_getD _ _ _ _ hk, fullL_getD _ _ _ _ (by omega)]
  exact (trF_C (by omega) a hr.xn k).mul (trF_C (by omega) b hxb k)
theorem fwd_add {P : Nat} {a b : List Int} (h : Fit P a) (hl : a.length = b.length) : fwdL P (fullL (fun k => (a.getD k 0 + b.getD k 0) % (P : Int)) a.length) = fullL (fun k => ((fwdL P a).getD k 0 + (fwdL P b).getD k 0) % (P : Int)) a.length := by
  have h2 := h.pr.1
  have hr := rt_of h
  have hsl := fullL_len (fun k => (a.getD k 0 + b.getD k 0) % (P : Int)) a.length
  unfold fwdL
  rw [hsl, ← hl]
  refine fullL_congr (fun k hk => ?_)
  refine C.eq (p := (P : Int)) ?_ (trF_bd (by omega) _ _ _) ⟨Int.emod_nonneg _ (by omega), Int.emod_lt_of_pos _ (by omega)⟩
  have hx : C (P : Int) (((rootN P a.length : Nat) : Int) ^ (fullL (fun k => (a.getD k 0 + b.getD k 0) % (P : Int)) a.length).length) 1 := by rw [hsl]; exact hr.xn
  have hxb : C (P : Int) (((rootN P a.length : Nat) : Int) ^ b.length) 1 := by rw [← hl]; exact hr.xn
  have a1 := trF_C (by omega) _ hx k
  rw [hsl] at a1
  refine a1.trans (C.symm ((C.emod _ _).trans ?_))
  rw [fullL_getD _ _ _ _ hk, fullL_getD _ _ _ _ (by omega)]
  refine ((trF_C (by omega) a hr.xn k).add (trF_C (by omega) b hxb k)).trans ?_
  rw [← hl, ← S_add]
  refine S_C (fun j hj => ?_)
  rw [fullL_getD _ _ _ _ hj, ← Int.add_mul]
  exact (C.symm (C.emod _ _)).mul (C.refl _ _)
end Go.Proofs.Ytdcacklochaljaa
