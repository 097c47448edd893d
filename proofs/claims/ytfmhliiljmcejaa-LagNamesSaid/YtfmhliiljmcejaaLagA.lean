/-
  Contracts: lag.Check, fringeref16.Check, Same, Long, even.
-/
import Derived.Test.YtfmhliiljmcejaaProg
import Derived.Test.YtfmhliiljmcejaaRowsW
import Derived.Test.YtfmhliiljmcejaaSample
import Derived.Deep.QuietTactic
import Derived.BigQuiet
import Derived.Deep.LoopGhost
namespace Go.Proofs.Ytfmhliiljmcejaa
open Go.RowKit
set_option linter.unusedVariables false

def okLag (a : Int × Int) : Bool := decide (0 ≤ a.2 ∧ a.2 ≤ 256 ∧ -9 * a.2 ≤ a.1 ∧ a.1 ≤ 9 * a.2 ∧ (a.1 - a.2) % 2 = 0)
def lagErr (l : List (Int × Int)) : Int := if 511 < l.length then 4 else if l.length % 2 = 0 then 8 else if l.all okLag then 0 else 8


theorem lagErr_many {l : List (Int × Int)} (h : 511 < l.length) : lagErr l = 4 := by unfold lagErr; rw [if_pos h]
theorem lagErr_even {l : List (Int × Int)} (h : l.length ≤ 511) (h2 : l.length % 2 = 0) : lagErr l = 8 := by unfold lagErr; rw [if_neg (by omega), if_pos h2]
theorem lagErr_bad {l : List (Int × Int)} {k : Nat} (h : l.length ≤ 511) (hk : k < l.length) (h2 : okLag l[k] = false) : lagErr l = 8 := by
  unfold lagErr
  rw [if_neg (by omega)]
  split
  · rfl
  · rw [if_neg]
    simp only [List.all_eq_true]
    intro h3
    have := h3 _ (List.getElem_mem hk)
    simp [h2] at this
theorem lagErr_ok {l : List (Int × Int)} (h : l.length ≤ 511) (h1 : ¬ l.length % 2 = 0) (h2 : ∀ x ∈ l, okLag x = true) : lagErr l = 0 := by
  unfold lagErr
  rw [if_neg (by omega), if_neg h1, if_pos (by simpa using h2)]
theorem takeAll_snoc {α : Type} {p : α → Prop} {xs : List α} {k : Nat} (hk : k < xs.length) (h : ∀ x ∈ xs.take k, p x) (h2 : p xs[k]) : ∀ x ∈ xs.take (k + 1), p x := by
  intro x hx
  rw [List.take_succ_eq_append_getElem hk] at hx
  simp only [List.mem_append, List.mem_singleton] at hx
  rcases hx with hx | rfl
  · exact h x hx
  · exact h2
theorem takeAll_end {α : Type} {p : α → Prop} {xs : List α} {k : Nat} (hk : xs.length ≤ k) (h : ∀ x ∈ xs.take k, p x) : ∀ x ∈ xs, p x := by
  rwa [List.take_of_length_le hk] at h


theorem tmod2_iff (x : Int) : x.tmod 2 = 0 ↔ x % 2 = 0 :=
  ⟨fun h => Int.emod_eq_zero_of_dvd (Int.dvd_of_tmod_eq_zero h), fun h => Int.tmod_eq_zero_of_dvd (Int.dvd_of_emod_eq_zero h)⟩
theorem okLag_no {a : Int × Int} (h : a.2 < 0 ∨ 256 < a.2 ∨ a.1 < -9 * a.2 ∨ 9 * a.2 < a.1) : okLag a = false := by
  simp only [okLag, decide_eq_false_iff_not]; omega
theorem okLag_odd {a : Int × Int} (h : ((a.1 - a.2).tmod 2 != 0) = true) : okLag a = false := by
  have h2 : ¬ (a.1 - a.2) % 2 = 0 := by rw [← tmod2_iff]; simpa using h
  simp only [okLag, decide_eq_false_iff_not]; omega
theorem okLag_yes {a : Int × Int} (h1 : 0 ≤ a.2) (h2 : a.2 ≤ 256) (h3 : -9 * a.2 ≤ a.1) (h4 : a.1 ≤ 9 * a.2) (h : ((a.1 - a.2).tmod 2 != 0) = false) : okLag a = true := by
  have h5 : (a.1 - a.2) % 2 = 0 := by rw [← tmod2_iff]; simpa using h
  simp only [okLag, decide_eq_true_eq]; omega

theorem lagCheck_any (A : Option Addr) (c : Nat) (l : List (Int × Int)) (w : World) (hx : RL w A l) (hl : l.length ≤ 140737488355328) :
    Calls Try.prog 22 #[.slice A l.length c] w fun e w' => e = .returned (.int .i64 (lagErr l)) ∧ Below w.heap.size w w' := by
  by_cases hp : l.length % 2 = 0
  · have h2 : ((l.length : Int) % 2 == 0) = true := by simp; omega
    have HP := Lib.hid hp
    clear hp
    go_enter Try.func22, Try.ntmps22
    go_wp2
    · go_ret
      exact ⟨ret_int (lagErr_many (by omega)).symm, Below.refl _ _⟩
    · go_ret
      exact ⟨ret_int (lagErr_even (by omega) HP.out).symm, Below.refl _ _⟩
  have h2 : ((l.length : Int) % 2 == 0) = false := by simp; omega
  go_enter Try.func22, Try.ntmps22
  go_wp2
  · go_ret
    exact ⟨ret_int (lagErr_many (by omega)).symm, Below.refl _ _⟩
  go_loopg [4, 14] l.length (fun gk _ i wr => ∃ k : Nat, k + gk = l.length ∧ i = .int .i64 k ∧ Below w.heap.size w wr ∧ Hid (∀ x ∈ l.take k, okLag x = true))
  case atStart => exact ⟨0, by omega, rfl, Below.refl _ _, Lib.hid (by simp)⟩
  case round =>
    obtain ⟨k, hk, rfl, hb, hall⟩ := hrel
    have hk' : k ≤ l.length := by omega
    have HK := Lib.hid hk
    clear hk
    by_cases hlt : k < l.length
    · obtain ⟨b, off, rfl, _, hc1, hc2⟩ := (hx.keep hb).at_ hlt
      go_wp2
      all_goals first
        | (go_ret; exact ⟨ret_int (lagErr_bad (by omega) hlt (by first | exact okLag_odd (by assumption) | exact okLag_no (by omega))).symm, hb.alloc hb.size _⟩)
        | (go_roundg (gk - 1)
           case rel => exact ⟨k + 1, by have := HK.out; omega, by go_num, hb.alloc hb.size _, Lib.hid (takeAll_snoc hlt hall.out (okLag_yes (by omega) (by omega) (by omega) (by omega) (by assumption)))⟩
           case measure => have := HK.out; omega)
    · go_wp2
      go_ret
      exact ⟨ret_int (lagErr_ok (by omega) hp (takeAll_end (by omega) hall.out)).symm, hb⟩
end Go.Proofs.Ytfmhliiljmcejaa
