/-
  Contracts: Check, Both, element, Pow, Inv, Factors (the program's and the reference's).
-/
import Derived.Test.YtnngkghmhbcgeaaRingC
import Derived.Deep.RegionHeld3
namespace Go.Proofs.Ytnngkghmhbcgeaa
open Go.RowKit Num
set_option linter.unusedVariables false

noncomputable def okP (p : Int) : Bool := decide (2 ≤ p ∧ p ≤ 2000000000) && primeB p.toNat
noncomputable def chkE (p : Int) : Int := if okP p = true then 0 else 2
noncomputable def bothE (p a : Int) : Int := if okP p = true then (if a < 0 ∨ p ≤ a then 8 else 0) else 2
theorem okP_iff {p : Int} : okP p = true ↔ ∃ P : Nat, p = P ∧ 2 ≤ P ∧ P ≤ 2000000000 ∧ Pr P := by
  unfold okP
  rw [Bool.and_eq_true, decide_eq_true_eq, primeB_iff]
  constructor
  · rintro ⟨⟨h1, h2⟩, h3⟩
    exact ⟨p.toNat, by omega, by omega, by omega, h3⟩
  · rintro ⟨P, rfl, h1, h2, h3⟩
    refine ⟨⟨by omega, by omega⟩, ?_⟩
    rw [Int.toNat_natCast]; exact h3
theorem okP_nat {P : Nat} (h1 : 2 ≤ P) (h2 : P ≤ 2000000000) : okP (P : Int) = primeB P := by
  unfold okP
  rw [decide_eq_true (by omega), Bool.true_and, Int.toNat_natCast]
theorem okP_out {p : Int} (h : ¬ (2 ≤ p ∧ p ≤ 2000000000)) : okP p = false := by
  unfold okP
  rw [decide_eq_false h, Bool.false_and]
theorem okP_facs {P : Nat} (h1 : 2 ≤ P) (h2 : P ≤ 2000000000) : okP (P : Int) = decide ((facs P).length = 1) := by
  rw [okP_nat h1 h2, Bool.eq_iff_iff, primeB_iff, decide_eq_true_eq]
  exact facs_pr h1

theorem ringCheck_any (p : Int) (w : World) (hp1 : -9223372036854775808 ≤ p) (hp2 : p ≤ 9223372036854775807) :
    Calls Try.prog 14 #[.int .i64 p] w fun e w' => e = .returned (.int .i64 (chkE p)) ∧ Below w.heap.size w w' := by
  by_cases hr : 2 ≤ p ∧ p ≤ 2000000000
  · obtain ⟨P, rfl⟩ : ∃ P : Nat, p = P := ⟨p.toNat, by omega⟩
    have h1 : 2 ≤ P := by omega
    have h2 : P ≤ 2000000000 := by omega
    clear hr hp1 hp2
    have e0 := okP_nat h1 h2
    cases hb : primeB P
    · rw [hb] at e0
      have HE := Lib.hid (show chkE (P : Int) = 2 by unfold chkE; rw [e0]; rfl)
      clear e0
      go_enter Try.func14, Try.ntmps14
      go_wp2_with fail
      refine (prime_any P _ h1 h2).mono ?_
      rintro _ w1 ⟨rfl, hb1⟩
      rw [hb]
      go_wp2
      go_ret
      exact ⟨ret_int HE.out.symm, hb1⟩
    · rw [hb] at e0
      have HE := Lib.hid (show chkE (P : Int) = 0 by unfold chkE; rw [e0]; rfl)
      clear e0
      go_enter Try.func14, Try.ntmps14
      go_wp2_with fail
      refine (prime_any P _ h1 h2).mono ?_
      rintro _ w1 ⟨rfl, hb1⟩
      rw [hb]
      go_wp2
      go_ret
      exact ⟨ret_int HE.out.symm, hb1⟩
  · have HE := Lib.hid (show chkE p = 2 by unfold chkE; rw [okP_out hr]; rfl)
    rcases (show p < 2 ∨ (2 ≤ p ∧ 2000000000 < p) by omega) with h | ⟨h, h'⟩
    · clear hr
      go_enter Try.func14, Try.ntmps14
      go_wp2
      go_ret
      exact ⟨ret_int HE.out.symm, Below.refl _ _⟩
    · clear hr
      go_enter Try.func14, Try.ntmps14
      go_wp2
      go_ret
      exact ⟨ret_int HE.out.symm, Below.refl _ _⟩

theorem refFactorsOut_any (p : Int) (w : World) (h : 2000000000 < p) (h2 : p ≤ 9223372036854775807) :
    Calls Try.prog 17 #[.int .i64 p] w fun e w' => e = .returned (.tuple #[.slice none 0 0, .int .i64 2]) ∧ w = w' := by
  go_enter Try.func17, Try.ntmps17
  go_wp2
  go_ret2
  exact ⟨rfl, rfl⟩
theorem refCheck_any (p : Int) (w : World) (hp1 : -9223372036854775808 ≤ p) (hp2 : p ≤ 9223372036854775807) :
    Calls Try.prog 15 #[.int .i64 p] w fun e w' => e = .returned (.int .i64 (chkE p)) ∧ Below w.heap.size w w' := by
  by_cases hr : 2 ≤ p ∧ p ≤ 2000000000
  · obtain ⟨P, rfl⟩ : ∃ P : Nat, p = P := ⟨p.toNat, by omega⟩
    have h1 : 2 ≤ P := by omega
    have h2 : P ≤ 2000000000 := by omega
    clear hr hp1 hp2
    have e0 := okP_facs h1 h2
    have hl := toI_len (facs P)
    by_cases hb : (facs P).length = 1
    · rw [decide_eq_true hb] at e0
      have HE := Lib.hid (show chkE (P : Int) = 0 by unfold chkE; rw [e0]; rfl)
      have f1 : (((toI (facs P)).length : Int) != 1) = false := by rw [hl, hb]; rfl
      have HB := Lib.hid hb
      clear e0 hb hl
      go_enter Try.func15, Try.ntmps15
      go_wp2_with fail
      refine (refFactors_any P _ (by omega) h2).mono ?_
      rintro _ w1 ⟨A1, c1, rfl, r1, hb1⟩
      go_wp2
      go_ret
      exact ⟨ret_int HE.out.symm, hb1⟩
    · rw [decide_eq_false hb] at e0
      have HE := Lib.hid (show chkE (P : Int) = 2 by unfold chkE; rw [e0]; rfl)
      have f1 : (((toI (facs P)).length : Int) != 1) = true := by rw [hl, bne_iff_ne]; omega
      have HB := Lib.hid hb
      clear e0 hb hl
      go_enter Try.func15, Try.ntmps15
      go_wp2_with fail
      refine (refFactors_any P _ (by omega) h2).mono ?_
      rintro _ w1 ⟨A1, c1, rfl, r1, hb1⟩
      go_wp2
      go_ret
      exact ⟨ret_int HE.out.symm, hb1⟩
  · have HE := Lib.hid (show chkE p = 2 by unfold chkE; rw [okP_out hr]; rfl)
    rcases (show p < 2 ∨ (2 ≤ p ∧ 2000000000 < p) by omega) with h | ⟨h, h'⟩
    · clear hr
      go_enter Try.func15, Try.ntmps15
      go_wp2
      go_ret
      exact ⟨ret_int HE.out.symm, Below.refl _ _⟩
    · clear hr
      have hF := refFactorsOut_any p w h' hp2
      go_enter Try.func15, Try.ntmps15
      go_wp2_with fail
      refine (hF).mono ?_
      rintro _ w1 ⟨rfl, rfl⟩
      go_wp2
      go_ret
      exact ⟨ret_int HE.out.symm, Below.refl _ _⟩

theorem ok_cases (p : Int) : (chkE p = 0 ∧ okP p = true ∧ ∃ P : Nat, p = P ∧ 2 ≤ P ∧ P ≤ 2000000000 ∧ Pr P) ∨ (chkE p = 2 ∧ okP p = false) := by
  cases h : okP p
  · exact Or.inr ⟨by unfold chkE; rw [h]; rfl, rfl⟩
  · exact Or.inl ⟨by unfold chkE; rw [h]; rfl, rfl, okP_iff.1 h⟩

theorem element_any (p a : Int) (w : World) (hp1 : -9223372036854775808 ≤ p) (hp2 : p ≤ 9223372036854775807) :
    Calls Try.prog 29 #[.int .i64 p, .int .i64 a] w fun e w' => e = .returned (.int .i64 (bothE p a)) ∧ Below w.heap.size w w' := by
  rcases ok_cases p with ⟨e0, e1, P, rfl, h2, h3, hP⟩ | ⟨e0, e1⟩
  · have c0 : (chkE (P : Int) != 0) = false := by rw [e0]; rfl
    have HP := Lib.hid hP
    clear hP
    by_cases ha : a < 0 ∨ (P : Int) ≤ a
    · have HE := Lib.hid (show bothE (P : Int) a = 8 by unfold bothE; rw [if_pos e1, if_pos ha])
      rcases (show a < 0 ∨ (0 ≤ a ∧ (P : Int) ≤ a) by omega) with h | ⟨h, h'⟩
      · clear ha
        go_enter Try.func29, Try.ntmps29
        go_wp2_with fail
        refine (ringCheck_any _ _ (by omega) (by omega)).mono ?_
        rintro _ w1 ⟨rfl, hb1⟩
        go_wp2
        go_ret
        exact ⟨ret_int HE.out.symm, hb1⟩
      · clear ha
        go_enter Try.func29, Try.ntmps29
        go_wp2_with fail
        refine (ringCheck_any _ _ (by omega) (by omega)).mono ?_
        rintro _ w1 ⟨rfl, hb1⟩
        go_wp2
        go_ret
        exact ⟨ret_int HE.out.symm, hb1⟩
    · have HE := Lib.hid (show bothE (P : Int) a = 0 by unfold bothE; rw [if_pos e1, if_neg ha])
      have g1 : 0 ≤ a := by omega
      have g2 : a < P := by omega
      clear ha
      go_enter Try.func29, Try.ntmps29
      go_wp2_with fail
      refine (ringCheck_any _ _ (by omega) (by omega)).mono ?_
      rintro _ w1 ⟨rfl, hb1⟩
      go_wp2
      go_ret
      exact ⟨ret_int HE.out.symm, hb1⟩
  · have HE := Lib.hid (show bothE p a = chkE p by unfold bothE chkE; rw [e1]; rfl)
    have c0 : (chkE p != 0) = true := by rw [e0]; rfl
    have HC := Lib.hid e0
    clear e0
    go_enter Try.func29, Try.ntmps29
    go_wp2_with fail
    refine (ringCheck_any _ _ hp1 hp2).mono ?_
    rintro _ w1 ⟨rfl, hb1⟩
    go_wp2
    go_ret
    first
      | exact ⟨ret_int HE.out.symm, hb1⟩
      | exact ⟨ret_int (HE.out.trans HC.out).symm, hb1⟩
theorem refBoth_any (p a : Int) (w : World) (hp1 : -9223372036854775808 ≤ p) (hp2 : p ≤ 9223372036854775807) :
    Calls Try.prog 25 #[.int .i64 p, .int .i64 a] w fun e w' => e = .returned (.int .i64 (bothE p a)) ∧ Below w.heap.size w w' := by
  rcases ok_cases p with ⟨e0, e1, P, rfl, h2, h3, hP⟩ | ⟨e0, e1⟩
  · have c0 : (chkE (P : Int) != 0) = false := by rw [e0]; rfl
    have HP := Lib.hid hP
    clear hP
    by_cases ha : a < 0 ∨ (P : Int) ≤ a
    · have HE := Lib.hid (show bothE (P : Int) a = 8 by unfold bothE; rw [if_pos e1, if_pos ha])
      rcases (show a < 0 ∨ (0 ≤ a ∧ (P : Int) ≤ a) by omega) with h | ⟨h, h'⟩
      · clear ha
        go_enter Try.func25, Try.ntmps25
        go_wp2_with fail
        refine (refCheck_any _ _ (by omega) (by omega)).mono ?_
        rintro _ w1 ⟨rfl, hb1⟩
        go_wp2
        go_ret
        exact ⟨ret_int HE.out.symm, hb1⟩
      · clear ha
        go_enter Try.func25, Try.ntmps25
        go_wp2_with fail
        refine (refCheck_any _ _ (by omega) (by omega)).mono ?_
        rintro _ w1 ⟨rfl, hb1⟩
        go_wp2
        go_ret
        exact ⟨ret_int HE.out.symm, hb1⟩
    · have HE := Lib.hid (show bothE (P : Int) a = 0 by unfold bothE; rw [if_pos e1, if_neg ha])
      have g1 : 0 ≤ a := by omega
      have g2 : a < P := by omega
      clear ha
      go_enter Try.func25, Try.ntmps25
      go_wp2_with fail
      refine (refCheck_any _ _ (by omega) (by omega)).mono ?_
      rintro _ w1 ⟨rfl, hb1⟩
      go_wp2
      go_ret
      exact ⟨ret_int HE.out.symm, hb1⟩
  · have HE := Lib.hid (show bothE p a = chkE p by unfold bothE chkE; rw [e1]; rfl)
    have c0 : (chkE p != 0) = true := by rw [e0]; rfl
    have HC := Lib.hid e0
    clear e0
    go_enter Try.func25, Try.ntmps25
    go_wp2_with fail
    refine (refCheck_any _ _ hp1 hp2).mono ?_
    rintro _ w1 ⟨rfl, hb1⟩
    go_wp2
    go_ret
    first
      | exact ⟨ret_int HE.out.symm, hb1⟩
      | exact ⟨ret_int (HE.out.trans HC.out).symm, hb1⟩
end Go.Proofs.Ytnngkghmhbcgeaa
