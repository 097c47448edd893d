/-
  Plain: accumulators, when they are valid, and what merging gives.
-/
import Derived.Test.YtjhigfhgchpjcaaRunsU
import Derived.Test.YtjhigfhgchpjcaaGen
namespace Go.Proofs.Ytjhigfhgchpjcaa
open Runs
set_option linter.unusedVariables false
set_option linter.unusedSimpArgs false

structure Acc where
  s : List (Int × Int)
  n : List (Int × Int)
  g : List (Int × Int)
def Acc.none : Acc := ⟨[], [], []⟩
def wrongB (least : Int) (c : Int × Int) : Bool := decide (c.2 < 0) || decide (1000000000 ≤ c.2) || decide (c.1 < least) || decide (1000000000 ≤ c.1)
def gOk (l : List (Int × Int)) (j : Nat) : Bool :=
  decide (0 ≤ (l.getD j (0, 0)).1 ∧ 1 ≤ (l.getD j (0, 0)).2 ∧ (l.getD j (0, 0)).1 + (l.getD j (0, 0)).2 ≤ 1000000000 ∧ (j = 0 ∨ (l.getD (j - 1) (0, 0)).1 + (l.getD (j - 1) (0, 0)).2 < (l.getD j (0, 0)).1))
def runB (l : List (Int × Int)) : Bool := (List.range l.length).all (gOk l)
theorem runB_all {l : List (Int × Int)} : runB l = true ↔ ∀ j, j < l.length → gOk l j = true := by simp [runB]
theorem runB_no {l : List (Int × Int)} {j : Nat} (h : j < l.length) (h2 : gOk l j = false) : runB l = false := by
  rw [Bool.eq_false_iff, Ne, runB_all]
  intro h3
  rw [h3 j h] at h2
  cases h2
theorem gOk_bd {l : List (Int × Int)} {j : Nat} (hj : j < l.length) (h : gOk l j = true) : okG l[j] := by
  unfold gOk at h
  rw [getD_lt _ _ hj, decide_eq_true_eq] at h
  exact ⟨h.1, h.2.1, h.2.2.1⟩
theorem runB_iff {l : List (Int × Int)} : runB l = true ↔ Rn l := by
  rw [runB_all]
  constructor
  · intro h
    have hok : ∀ j (hj : j < l.length), okG l[j] := fun j hj => gOk_bd hj (h j hj)
    refine ⟨fun g hg => ?_, ?_⟩
    · obtain ⟨j, hj, rfl⟩ := List.getElem_of_mem hg
      exact hok j hj
    · rw [List.pairwise_iff_getElem]
      have key : ∀ d i (hi : i + d + 1 < l.length), l[i].1 + l[i].2 < l[i + d + 1].1 := by
        intro d
        induction d with
        | zero =>
          intro i hi
          have h1 := h (i + 1) hi
          unfold gOk at h1
          rw [getD_lt _ _ hi, decide_eq_true_eq, Nat.add_sub_cancel, getD_lt _ _ (by omega)] at h1
          rcases h1.2.2.2 with h2 | h2
          · omega
          · exact h2
        | succ d ih =>
          intro i hi
          have h1 := ih i (by omega)
          have h2 := hok (i + d + 1) (by omega)
          have hi2 : i + d + 2 < l.length := by omega
          have h3 := h (i + d + 2) hi2
          unfold gOk at h3
          rw [getD_lt _ _ hi2, decide_eq_true_eq, show i + d + 2 - 1 = i + d + 1 by omega, getD_lt _ _ (by omega)] at h3
          unfold okG at h2
          rcases h3.2.2.2 with h4 | h4
          · omega
          · show l[i].1 + l[i].2 < l[i + d + 2].1
            omega
      intro i j hi hj hij
      have := key (j - i - 1) i (by omega)
      have e : i + (j - i - 1) + 1 = j := by omega
      simp only [e] at this
      exact this
  · rintro ⟨h1, h2⟩ j hj
    have h3 := h1 _ (List.getElem_mem hj)
    unfold okG at h3
    unfold gOk
    rw [getD_lt _ _ hj, decide_eq_true_eq]
    refine ⟨h3.1, h3.2.1, h3.2.2, ?_⟩
    by_cases h0 : j = 0
    · exact .inl h0
    · refine .inr ?_
      rw [getD_lt _ _ (by omega)]
      exact List.pairwise_iff_getElem.1 h2 (j - 1) j (by omega) hj (by omega)
def accErr (a : Acc) : Int :=
  if 511 < a.s.length ∨ 511 < a.n.length ∨ 64 < a.g.length then 4
  else if a.s.length ≠ a.n.length ∨ a.s.length % 2 = 0 ∨ runB a.g = false then 8
  else if a.s.any (wrongB (-1000000000)) || a.n.any (wrongB 0) then 8 else 0
/-- What is known of an accumulator that is valid. -/
structure Fine (a : Acc) : Prop where
  ls : a.s.length ≤ 511
  ln : a.n.length = a.s.length
  lg : a.g.length ≤ 64
  odd : a.s.length % 2 = 1
  rn : Rn a.g
  s : ∀ x ∈ a.s, 0 ≤ x.2 ∧ x.2 < 1000000000 ∧ -1000000000 ≤ x.1 ∧ x.1 < 1000000000
  n : ∀ x ∈ a.n, 0 ≤ x.2 ∧ x.2 < 1000000000 ∧ 0 ≤ x.1 ∧ x.1 < 1000000000
theorem wrongB_no {least : Int} {c : Int × Int} : wrongB least c = false ↔ 0 ≤ c.2 ∧ c.2 < 1000000000 ∧ least ≤ c.1 ∧ c.1 < 1000000000 := by
  simp [wrongB]
  omega
theorem anyW_no {least : Int} {l : List (Int × Int)} : l.any (wrongB least) = false ↔ ∀ x ∈ l, 0 ≤ x.2 ∧ x.2 < 1000000000 ∧ least ≤ x.1 ∧ x.1 < 1000000000 := by
  rw [Bool.eq_false_iff, Ne, List.any_eq_true]
  constructor
  · intro h x hx
    rw [← wrongB_no]
    cases h2 : wrongB least x
    · rfl
    · exact absurd ⟨x, hx, h2⟩ h
  · rintro h ⟨x, hx, h2⟩
    rw [wrongB_no.2 (h x hx)] at h2
    cases h2
theorem acc_fine {a : Acc} : accErr a = 0 ↔ Fine a := by
  unfold accErr
  constructor
  · intro h
    by_cases h1 : 511 < a.s.length ∨ 511 < a.n.length ∨ 64 < a.g.length
    · rw [if_pos h1] at h; omega
    rw [if_neg h1] at h
    by_cases h2 : a.s.length ≠ a.n.length ∨ a.s.length % 2 = 0 ∨ runB a.g = false
    · rw [if_pos h2] at h; omega
    rw [if_neg h2] at h
    by_cases h3 : (a.s.any (wrongB (-1000000000)) || a.n.any (wrongB 0)) = true
    · rw [if_pos h3] at h; omega
    have h4 : a.s.any (wrongB (-1000000000)) = false ∧ a.n.any (wrongB 0) = false := by simpa using h3
    have h5 : runB a.g = true := by
      cases e : runB a.g
      · exact absurd (.inr (.inr e)) h2
      · rfl
    exact ⟨by omega, by omega, by omega, by omega, runB_iff.1 h5, anyW_no.1 h4.1, anyW_no.1 h4.2⟩
  · intro h
    have := h.ls; have := h.ln; have := h.lg; have := h.odd
    have h5 := runB_iff.2 h.rn
    have h4 := anyW_no.2 h.s
    have h6 := anyW_no.2 h.n
    rw [if_neg (by omega), if_neg (by rw [h5]; simp; omega), h4, h6]
    rfl
theorem accErr_vals (a : Acc) : accErr a = 0 ∨ accErr a = 4 ∨ accErr a = 8 := by
  unfold accErr
  repeat' split
  all_goals simp

/-! ### counts -/
def val (c : Int × Int) : Int := c.1 * 1000000000 + c.2
def cnt (v : Int) : Int × Int := (v / 1000000000, v % 1000000000)
theorem val_cnt (v : Int) : val (cnt v) = v := by unfold val cnt; simp only []; omega
theorem cnt_val {c : Int × Int} (h1 : 0 ≤ c.2) (h2 : c.2 < 1000000000) : cnt (val c) = c := by
  unfold val cnt
  exact Prod.ext (by simp only []; omega) (by simp only []; omega)
def addC (a b : Int × Int) : Int × Int := cnt (val a + val b)
def inR (c : Int × Int) : Bool := decide (-1000000000 ≤ c.1 ∧ c.1 < 1000000000)
def addF (a b : List (Int × Int)) (k : Nat) : Int × Int := addC (a.getD k (0, 0)) (b.getD k (0, 0))
def addL (a b : List (Int × Int)) : List (Int × Int) := fullL (addF a b) a.length
def rngB (a b : List (Int × Int)) : Bool := (addL a b).all inR
theorem rngB_no {a b : List (Int × Int)} {k : Nat} (hk : k < a.length) (h : inR (addF a b k) = false) : rngB a b = false := by
  rw [Bool.eq_false_iff, Ne, rngB, List.all_eq_true]
  intro h2
  have hm : (addL a b)[k]'(by rw [addL, fullL_len]; exact hk) ∈ addL a b := List.getElem_mem _
  have := h2 _ hm
  unfold addL at this
  rw [fullL_get] at this
  rw [this] at h
  cases h
theorem rngB_yes {a b : List (Int × Int)} (h : ∀ k, k < a.length → inR (addF a b k) = true) : rngB a b = true := by
  rw [rngB, List.all_eq_true]
  intro x hx
  obtain ⟨k, hk, rfl⟩ := List.getElem_of_mem hx
  unfold addL at hk ⊢
  rw [fullL_get]
  exact h k (by simpa [fullL] using hk)
theorem rngB_at {a b : List (Int × Int)} (h : rngB a b = true) {k : Nat} (hk : k < a.length) : inR (addF a b k) = true := by
  cases e : inR (addF a b k)
  · rw [rngB_no hk e] at h; cases h
  · rfl
/-- Merging two valid accumulators of the same length. -/
noncomputable def mrg (a b : Acc) : Acc × Int :=
  if (uni a.g b.g).2 = false then (.none, 14)
  else if rngB a.s b.s = false ∨ rngB a.n b.n = false then (.none, 16)
  else if 64 < (uni a.g b.g).1.length then (.none, 4)
  else (⟨addL a.s b.s, addL a.n b.n, (uni a.g b.g).1⟩, 0)
noncomputable def mergeS (a b : Acc) : Acc × Int :=
  if accErr a ≠ 0 then (.none, accErr a) else if accErr b ≠ 0 then (.none, accErr b) else if a.s.length ≠ b.s.length then (.none, 2) else mrg a b
def lagAcc (l : List (Int × Int)) (at_ many : Int) : Acc := ⟨fullL (fun k => cnt (l.getD k (0, 0)).1) l.length, fullL (fun k => cnt (l.getD k (0, 0)).2) l.length, [(at_, many)]⟩
def addArg (a : Acc) (l : List (Int × Int)) (at_ many : Int) : Bool := decide (l.length ≠ a.s.length ∨ many < 1 ∨ 256 < many ∨ at_ < 0 ∨ 1000000000 - many < at_)
def newS (m : Int) : Acc × Int := if m < 0 ∨ 255 < m then (.none, 2) else (⟨List.replicate (2 * m.toNat + 1) (0, 0), List.replicate (2 * m.toNat + 1) (0, 0), []⟩, 0)
def valS (a : Acc) (lag : Int) : (Int × Int) × Int :=
  if accErr a ≠ 0 then ((0, 0), accErr a) else if lag < -((a.s.length / 2 : Nat) : Int) ∨ ((a.s.length / 2 : Nat) : Int) < lag then ((0, 0), 2)
  else ((val (a.s.getD (lag + (a.s.length / 2 : Nat)).toNat (0, 0)), val (a.n.getD (lag + (a.s.length / 2 : Nat)).toNat (0, 0))), 0)
def timS (a : Acc) : Int × Int := if accErr a ≠ 0 then (0, accErr a) else (tot a.g, 0)
end Go.Proofs.Ytjhigfhgchpjcaa
