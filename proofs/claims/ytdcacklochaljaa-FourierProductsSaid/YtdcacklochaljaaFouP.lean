/-
  Plain: turns and phases, a convolution with a single 1.
-/
import Derived.Test.YtdcacklochaljaaFouN
namespace Go.Proofs.Ytdcacklochaljaa
open Go.RowKit Num Dft
set_option linter.unusedVariables false

theorem set_getD {l : List Int} {k j : Nat} {x : Int} (hk : k < l.length) (hj : j < l.length) : (l.set k x).getD j 0 = if k = j then x else l.getD j 0 := by
  rw [getD_lt _ _ (by simpa using hj), List.getElem_set]
  by_cases e : k = j
  · rw [if_pos e, if_pos e]
  · rw [if_neg e, if_neg e, getD_lt _ _ hj]
/-- the convolution's numbers -/
theorem cvJ_C {P : Nat} {a b st : List Int} {i : Nat} (h1 : 1 ≤ a.length) (hst : st.length = a.length) {t : Nat} (ht : t < a.length) (j : Nat) :
    C (P : Int) ((cvJ P a b i j st).getD t 0) (st.getD t 0 + S (fun j' => if (i + j') % a.length = t then a.getD i 0 * b.getD j' 0 else 0) j) := by
  induction j with
  | zero => exact C.of_eq (by show st.getD t 0 = st.getD t 0 + 0; omega)
  | succ j ih =>
    show C (P : Int) ((cvU P a b i j (cvJ P a b i j st)).getD t 0) (st.getD t 0 + (S (fun j' => if (i + j') % a.length = t then a.getD i 0 * b.getD j' 0 else 0) j + (if (i + j) % a.length = t then a.getD i 0 * b.getD j 0 else 0)))
    have hl : (cvJ P a b i j st).length = a.length := by rw [cvJ_len]; exact hst
    have hm : (i + j) % a.length < a.length := Nat.mod_lt _ (by omega)
    unfold cvU
    rw [set_getD (by rw [hl]; exact hm) (by rw [hl]; exact ht), ← Int.add_assoc]
    by_cases e : (i + j) % a.length = t
    · rw [if_pos e, if_pos e, e]
      exact (C.emod _ _).trans (ih.add (C.refl _ _))
    · rw [if_neg e, if_neg e, Int.add_zero]
      exact ih
theorem cvI_C {P : Nat} {a b : List Int} (h1 : 1 ≤ a.length) {t : Nat} (ht : t < a.length) (i : Nat) :
    C (P : Int) ((cvI P a b i).getD t 0) (S (fun i' => S (fun j' => if (i' + j') % a.length = t then a.getD i' 0 * b.getD j' 0 else 0) b.length) i) := by
  induction i with
  | zero => exact C.of_eq (by show (List.replicate a.length (0 : Int)).getD t 0 = 0; rw [getD_lt _ _ (by simpa using ht)]; simp)
  | succ i ih => exact (cvJ_C h1 (cvI_len P a b i) ht b.length).trans (ih.add (C.refl _ _))

def oneL (n D : Nat) : List Int := (List.replicate n (0 : Int)).set D 1
theorem oneL_len (n D : Nat) : (oneL n D).length = n := by simp [oneL]
theorem oneL_at {n D j : Nat} (hD : D < n) (hj : j < n) : (oneL n D).getD j 0 = if j = D then 1 else 0 := by
  unfold oneL
  rw [set_getD (by simpa using hD) (by simpa using hj)]
  by_cases e : D = j
  · rw [if_pos e, if_pos e.symm]
  · rw [if_neg e, if_neg (fun h => e h.symm), getD_lt _ _ (by simpa using hj)]; simp
noncomputable def tuL (l : List Int) (D : Nat) : List Int := fullL (tuF l D) l.length
theorem tuL_len (l : List Int) (D : Nat) : (tuL l D).length = l.length := fullL_len _ _
theorem tuF_bd {P : Nat} {l : List Int} (h : Fit P l) (D k : Nat) : 0 ≤ tuF l D k ∧ tuF l D k < P := h.el _ (backI_lt h.l1)
theorem fit_tu {P : Nat} {l : List Int} (h : Fit P l) (D : Nat) : Fit P (tuL l D) := fit_full h (tuF_bd h D)
theorem fit_one {P : Nat} {l : List Int} (h : Fit P l) {D : Nat} (hD : D < l.length) : Fit P (oneL l.length D) := by
  have h2 := h.pr.1
  refine ⟨h.pr, h.le, by rw [oneL_len]; exact h.l1, by rw [oneL_len]; exact h.l64, by rw [oneL_len]; exact h.dv, ?_⟩
  intro j hj
  rw [oneL_len] at hj
  rw [oneL_at hD hj]
  split <;> omega
/-- a turned list's number as a sum -/
theorem tuF_S {l : List Int} {D m : Nat} (hD : D < l.length) (hm : m < l.length) : S (fun j => if (j + D) % l.length = m then l.getD j 0 else 0) l.length = tuF l D m := by
  have hb := backI_lt (n := l.length) (D := D) (m := m) (by omega)
  rw [S_one (k := backI l.length D m) hb (fun j hj hne => if_neg (fun e => hne ((backI_iff hD hm hj).2 e.symm).symm))]
  rw [if_pos ((backI_iff hD hm hb).1 rfl).symm]
  rfl
theorem turn_phase {P : Nat} {l : List Int} (h : Fit P l) {D : Nat} (hD : D < l.length) : fwdL P (tuL l D) = fullL (phF P (fwdL P l) D) (fwdL P l).length := by
  have h2 := h.pr.1
  have hr := rt_of h
  have hlen : (fwdL P l).length = l.length := fwdL_len P l
  unfold fwdL at hlen ⊢
  rw [tuL_len, fullL_len]
  refine fullL_congr (fun k hk => ?_)
  refine C.eq (p := (P : Int)) ?_ (trF_bd (by omega) _ _ _) ⟨Int.emod_nonneg _ (by omega), Int.emod_lt_of_pos _ (by omega)⟩
  have hx : C (P : Int) (((rootN P l.length : Nat) : Int) ^ (tuL l D).length) 1 := by rw [tuL_len]; exact hr.xn
  have a1 := trF_C (by omega) (tuL l D) hx k
  rw [tuL_len] at a1
  have a2 : C (P : Int) (S (fun m => (tuL l D).getD m 0 * ((rootN P l.length : Nat) : Int) ^ (m * k)) l.length) (S (fun j => l.getD j 0 * ((rootN P l.length : Nat) : Int) ^ (j * k)) l.length * ((rootN P l.length : Nat) : Int) ^ (D * k)) := by
    have e1 : S (fun m => (tuL l D).getD m 0 * ((rootN P l.length : Nat) : Int) ^ (m * k)) l.length = S (fun j => S (fun m => (if (j + D) % l.length = m then l.getD j 0 else 0) * ((rootN P l.length : Nat) : Int) ^ (m * k)) l.length) l.length := by
      rw [S_swap]
      refine S_congr (fun m hm => ?_)
      unfold tuL
      rw [fullL_getD _ _ _ _ hm, ← tuF_S hD hm, S_mul']
    rw [e1, ← S_mul']
    refine S_C (fun j hj => ?_)
    have hm : (j + D) % l.length < l.length := Nat.mod_lt _ (by omega)
    rw [S_one hm (fun m _ hne => by rw [if_neg (fun e => hne e.symm), Int.zero_mul]), if_pos rfl, Int.mul_assoc]
    refine (C.refl _ _).mul ?_
    rw [← Int.pow_add, ← Nat.add_mul, Int.pow_mul, Int.pow_mul]
    exact (pow_mod_C hr.xn (j + D)).pow k
  refine (a1.trans a2).trans ?_
  unfold phF
  rw [fullL_len, fullL_getD _ _ _ _ hk]
  refine C.symm ((C.emod _ _).trans ?_)
  exact (trF_C (by omega) l hr.xn k).mul ((pwF_C P _ _).trans (pow_mod_C hr.xn _))
theorem rot_neg {d : Int} {n : Nat} (h : 1 ≤ n) : (rotD d n + rotD (-d) n) % n = 0 := by
  have h1 := rotD_cast d h
  have h2 := rotD_cast (-d) h
  have h3 : (((rotD d n + rotD (-d) n) % n : Nat) : Int) = 0 := by
    rw [Int.natCast_emod, Int.natCast_add, ← h1, ← h2, ← Int.add_emod, Int.add_right_neg, Int.zero_emod]
  omega
theorem turn_back {l : List Int} {d : Int} (h : 1 ≤ l.length) : tuL (tuL l (rotD d l.length)) (rotD (-d) l.length) = l := by
  have hD := rotD_lt d h
  have hD' := rotD_lt (-d) h
  have h0 := rot_neg (d := d) h
  generalize rotD d l.length = D at *
  generalize rotD (-d) l.length = D' at *
  unfold tuL
  rw [fullL_len]
  refine Eq.trans (fullL_congr (g := fun i => l.getD i 0) (fun m hm => ?_)) (fullL_id l)
  unfold tuF
  rw [fullL_len]
  have hb := backI_lt (n := l.length) (D := D') (m := m) h
  rw [fullL_getD _ _ _ _ hb]
  have hx : (m + D) % l.length < l.length := Nat.mod_lt _ (by omega)
  have e1 : backI l.length D' m = (m + D) % l.length := by
    rw [backI_iff hD' hm hx, Nat.mod_add_mod, Nat.add_assoc, Nat.add_mod, h0, Nat.add_zero, Nat.mod_mod, Nat.mod_eq_of_lt hm]
  have e2 : backI l.length D (backI l.length D' m) = m := by
    rw [backI_iff hD hb hm]; exact e1
  rw [e2]
theorem conv_one {P : Nat} {l : List Int} (h : Fit P l) {D : Nat} (hD : D < l.length) : cvL P l (oneL l.length D) = tuL l D := by
  have h1 := h.l1
  have h2 := h.pr.1
  unfold cvL
  refine list_ext_getD (d := 0) (by rw [cvI_len, tuL_len]) (fun t ht => ?_)
  rw [cvI_len] at ht
  refine C.eq (p := (P : Int)) ?_ (cvI_InP (by omega) _ t (by rw [cvI_len]; exact ht)) ((fit_tu h D).el t (by rw [tuL_len]; exact ht))
  refine (cvI_C h1 ht _).trans (C.of_eq ?_)
  unfold tuL
  rw [fullL_getD _ _ _ _ ht, ← tuF_S hD ht, oneL_len]
  refine S_congr (fun i hi => ?_)
  rw [S_one (k := D) hD (fun j hj hne => by rw [oneL_at hD hj, if_neg hne, Int.mul_zero]; split <;> rfl), oneL_at hD hD, if_pos rfl, Int.mul_one]
end Go.Proofs.Ytdcacklochaljaa
