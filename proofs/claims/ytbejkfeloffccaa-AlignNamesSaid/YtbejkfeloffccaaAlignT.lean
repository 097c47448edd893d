/-
  Contract: fringelaw14.fit.
-/
import Derived.Test.YtbejkfeloffccaaAlignR
namespace Go.Proofs.Ytbejkfeloffccaa
open Go.RowKit
set_option linter.unusedVariables false

/-- What the laws of layer 14 ask of a recording. -/
def fitB (l : List (Int × List Int)) : Bool := !greatB l && decide (recErr l = 0)
theorem fitB_yes {l : List (Int × List Int)} (h : fitB l = true) : greatB l = false ∧ recErr l = 0 := by
  simp only [fitB, Bool.and_eq_true, Bool.not_eq_true', decide_eq_true_eq] at h
  exact h
theorem fit14_any (A : Option Addr) (c : Nat) (l : List (Int × List Int)) (w : World) (hx : RB w A l) (hl : l.length ≤ 9223372036854775807) :
    Calls Try.prog 31 #[.slice A l.length c] w fun e w' => e = .returned (.bool (fitB l)) ∧ Below w.heap.size w w' := by
  by_cases hg : greatB l = true
  · have HR : Hid (fitB l = false) := Lib.hid (by simp [fitB, hg])
    go_enter Try.func31, Try.ntmps31
    go_wp2_with fail
    refine (great_any _ _ _ _ hx hl).mono ?_
    rintro _ _ ⟨rfl, rfl⟩
    go_wp2
    go_ret
    exact ⟨ret_bool HR.out.symm, Below.refl _ _⟩
  have hg' : greatB l = false := by simpa using hg
  obtain ⟨k1, k2⟩ := great_no hg'
  have HALL := Lib.hid (show ∀ b ∈ l, b.2.length ≤ 140737488355328 from fun b hb => by have := k1 b hb; omega)
  clear hg k1
  by_cases he : recErr l = 0
  · have e1 : (recErr l == 0) = true := by simp [he]
    have HR : Hid (fitB l = true) := Lib.hid (by simp [fitB, hg', he])
    clear he
    go_enter Try.func31, Try.ntmps31
    go_wp2_with fail
    refine (great_any _ _ _ _ hx hl).mono ?_
    rintro _ _ ⟨rfl, rfl⟩
    go_wp2_with fail
    refine (refCheck14_any _ _ _ _ hx (by omega) HALL.out).mono ?_
    rintro _ w1 ⟨rfl, hb1⟩
    go_wp2
    go_ret
    exact ⟨ret_bool HR.out.symm, hb1⟩
  · have e1 : (recErr l == 0) = false := by simp [he]
    have HR : Hid (fitB l = false) := Lib.hid (by simp [fitB, he])
    clear he
    go_enter Try.func31, Try.ntmps31
    go_wp2_with fail
    refine (great_any _ _ _ _ hx hl).mono ?_
    rintro _ _ ⟨rfl, rfl⟩
    go_wp2_with fail
    refine (refCheck14_any _ _ _ _ hx (by omega) HALL.out).mono ?_
    rintro _ w1 ⟨rfl, hb1⟩
    go_wp2
    go_ret
    exact ⟨ret_bool HR.out.symm, hb1⟩
end Go.Proofs.Ytbejkfeloffccaa
