/-
  Contracts: sample.digit, fringeref13.Digit, sample.Check, fringeref13.Check, fringeref13.Long, fringeref13.Same.
-/
import Derived.Test.YtbejkfeloffccaaProg
import Derived.Test.YtbejkfeloffccaaWords
import Derived.Deep.QuietTactic
import Derived.BigQuiet
namespace Go.Proofs.Ytbejkfeloffccaa
open Go.RowKit
set_option linter.unusedVariables false

def digitOf (x : Int) : Int := if x = 0 then 0 else if x = -3 then 1 else if x = -1 then 2 else if x = 1 then 3 else if x = 3 then 4 else -1

theorem digit_any (x : Int) (w : World) :
    Calls Try.prog 51 #[.int .i64 x] w fun e w' => e = .returned (.int .i64 (digitOf x)) ∧ w = w' := by
  go_enter Try.func51, Try.ntmps51
  go_wp2
  all_goals go_ret
  all_goals (refine ⟨ret_int ?_, rfl⟩; simp_all [digitOf])

theorem Digit_any (x : Int) (w : World) :
    Calls Try.prog 50 #[.int .i64 x] w fun e w' => e = .returned (.int .i64 (digitOf x)) ∧ w = w' := by
  go_enter Try.func50, Try.ntmps50
  go_wp2
  all_goals go_ret
  all_goals (refine ⟨ret_int ?_, rfl⟩; simp_all [digitOf])

/-- What both Checks of a stream answer. -/
def streamErr (xs : List Int) : Int := if 256 < xs.length then 4 else if xs.all (fun x => decide (0 ≤ digitOf x)) then 0 else 8


theorem streamErr_ok {xs : List Int} (h1 : xs.length ≤ 256) (h2 : ∀ x ∈ xs, 0 ≤ digitOf x) : streamErr xs = 0 := by
  unfold streamErr
  rw [if_neg (by omega), if_pos (by simpa using h2)]
theorem streamErr_bad {xs : List Int} {k : Nat} (h1 : xs.length ≤ 256) (hk : k < xs.length) (h2 : digitOf xs[k] < 0) : streamErr xs = 8 := by
  unfold streamErr
  rw [if_neg (by omega), if_neg]
  simp only [List.all_eq_true, decide_eq_true_eq]
  intro h
  have := h _ (List.getElem_mem hk)
  omega
theorem take_all_snoc {p : Int → Prop} {xs : List Int} {k : Nat} (hk : k < xs.length) (h : ∀ x ∈ xs.take k, p x) (h2 : p xs[k]) : ∀ x ∈ xs.take (k + 1), p x := by
  intro x hx
  rw [List.take_succ_eq_append_getElem hk] at hx
  simp only [List.mem_append, List.mem_singleton] at hx
  rcases hx with hx | rfl
  · exact h x hx
  · exact h2

theorem sampleCheck_any (A : Option Addr) (c : Nat) (xs : List Int) (w : World) (hx : RI .i64 w A xs) (hl : xs.length ≤ 140737488355328) :
    Calls Try.prog 37 #[.slice A xs.length c] w fun e w' => e = .returned (.int .i64 (streamErr xs)) ∧ w = w' := by
  go_enter Try.func37, Try.ntmps37
  go_wp2
  · go_ret
    exact ⟨ret_int (by simp [streamErr]; omega), rfl⟩
  go_loop [4, 10] (fun _ i => ∃ k : Nat, k ≤ xs.length ∧ i = .int .i64 k ∧ Hid (∀ x ∈ xs.take k, 0 ≤ digitOf x)) (fun _ i => xs.length - (intOf i).toNat)
  case atStart => exact ⟨0, Nat.zero_le _, rfl, Lib.hid (by simp)⟩
  case round =>
    obtain ⟨k, hk, rfl, hall⟩ := hrel
    by_cases hlt : k < xs.length
    · obtain ⟨b, off, rfl, hc⟩ := hx.at_ hlt
      go_wp2_with (go_at_call 51; refine (digit_any _ _).mono ?_; rintro e w' ⟨rfl, rfl⟩)
      · go_ret
        exact ⟨ret_int (streamErr_bad (by omega) hlt (by assumption)).symm, rfl⟩
      · go_round
        case rel => exact ⟨k + 1, by omega, by go_num, Lib.hid (take_all_snoc hlt hall.out (by assumption))⟩
        case measure => simp [intOf]; omega
    · go_wp2
      go_ret
      exact ⟨ret_int (streamErr_ok (by omega) (by have := hall.out; rwa [List.take_of_length_le (by omega)] at this)).symm, rfl⟩

theorem refCheck13_any (A : Option Addr) (c : Nat) (xs : List Int) (w : World) (hx : RI .i64 w A xs) (hl : xs.length ≤ 140737488355328) :
    Calls Try.prog 35 #[.slice A xs.length c] w fun e w' => e = .returned (.int .i64 (streamErr xs)) ∧ w = w' := by
  go_enter Try.func35, Try.ntmps35
  go_wp2
  · go_ret
    exact ⟨ret_int (by simp [streamErr]; omega), rfl⟩
  go_loop [3] (fun i => ∃ k : Nat, k ≤ xs.length ∧ i = .int .i64 k ∧ Hid (∀ x ∈ xs.take k, 0 ≤ digitOf x)) (fun i => xs.length - (intOf i).toNat)
  case atStart => exact ⟨0, Nat.zero_le _, rfl, Lib.hid (by simp)⟩
  case round =>
    obtain ⟨k, hk, rfl, hall⟩ := hrel
    by_cases hlt : k < xs.length
    · obtain ⟨b, off, rfl, hc⟩ := hx.at_ hlt
      go_wp2_with (go_at_call 50; refine (Digit_any _ _).mono ?_; rintro e w' ⟨rfl, rfl⟩)
      · go_ret
        exact ⟨ret_int (streamErr_bad (by omega) hlt (by assumption)).symm, rfl⟩
      · go_round
        case rel => exact ⟨k + 1, by omega, by go_num, Lib.hid (take_all_snoc hlt hall.out (by assumption))⟩
        case measure => simp [intOf]; omega
    · go_wp2
      go_ret
      exact ⟨ret_int (streamErr_ok (by omega) (by have := hall.out; rwa [List.take_of_length_le (by omega)] at this)).symm, rfl⟩


theorem long13_any (A : Option Addr) (n c : Nat) (w : World) :
    Calls Try.prog 10 #[.slice A n c] w fun e w' => e = .returned (.bool (decide (300 < n))) ∧ w = w' := by
  go_enter Try.func10, Try.ntmps10
  go_wp2
  go_ret
  exact ⟨ret_bool (decide_eq_decide.2 (by omega)), rfl⟩

theorem list_ne_of_getD {xs ys : List Int} {k : Nat} (h : xs.getD k 0 ≠ ys.getD k 0) : decide (xs = ys) = false := by
  simp only [decide_eq_false_iff_not]
  intro e
  exact h (by rw [e])
theorem list_eq_of_getD {xs ys : List Int} (hl : xs.length = ys.length) (h : ∀ j, j < xs.length → xs.getD j 0 = ys.getD j 0) : xs = ys := by
  apply List.ext_getElem hl
  intro j h1 h2
  have := h j h1
  simpa [List.getD_eq_getElem?_getD, List.getElem?_eq_getElem h1, List.getElem?_eq_getElem h2] using this
theorem all_lt_succ {p : Nat → Prop} {k : Nat} (h : ∀ j, j < k → p j) (hk : p k) : ∀ j, j < k + 1 → p j := by
  intro j hj
  rcases Nat.lt_or_ge j k with h1 | h1
  · exact h j h1
  · obtain rfl : j = k := by omega
    exact hk

theorem same13_any (A B : Option Addr) (c d : Nat) (xs ys : List Int) (w : World) (hx : RI .i64 w A xs) (hy : RI .i64 w B ys) (hl : xs.length ≤ 140737488355328) (hl2 : ys.length ≤ 140737488355328) :
    Calls Try.prog 15 #[.slice A xs.length c, .slice B ys.length d] w fun e w' => e = .returned (.bool (decide (xs = ys))) ∧ ∃ n, w' = w.drewN n := by
  by_cases hlen : xs.length = ys.length
  · have h2 : ((xs.length : Int) != ys.length) = false := by simp; omega
    have hle : xs.length ≤ ys.length := by omega
    have HL := Lib.hid hlen
    clear hlen
    go_enter Try.func15, Try.ntmps15
    go_wp2
    go_loopw [5] (fun i wr => ∃ k n : Nat, k ≤ xs.length ∧ i = .int .i64 k ∧ wr = w.drewN n ∧ Hid (∀ j, j < k → xs.getD j 0 = ys.getD j 0)) (fun i _ => xs.length - (intOf i).toNat)
    case atStart => exact ⟨0, 0, Nat.zero_le _, rfl, rfl, Lib.hid (by simp)⟩
    case round =>
      obtain ⟨k, n, hk, rfl, rfl, hall⟩ := hrel
      by_cases hlt : k < xs.length
      · obtain ⟨b, off, rfl, hc⟩ := hx.at_ hlt
        have hlt2 := Nat.lt_of_lt_of_le hlt hle
        obtain ⟨b2, off2, rfl, hc2⟩ := hy.at_ hlt2
        go_wp2
        go_quiet (fail)
        go_wp2
        · have hv : (xs[k] != ys[k]) = true := by assumption
          go_ret
          refine ⟨ret_bool (list_ne_of_getD (k := k) ?_).symm, n + nq, by first | rfl | rw [World.drewN_drewN]⟩
          simpa [List.getD_eq_getElem?_getD, hlt, hlt2] using hv
        · have hv : (xs[k] != ys[k]) = false := by assumption
          go_roundw
          case rel => exact ⟨k + 1, _, by omega, by go_num, rfl, Lib.hid (all_lt_succ hall.out (by simpa [List.getD_eq_getElem?_getD, hlt, hlt2] using hv))⟩
          case measure => simp [intOf]; omega
      · go_wp2
        go_ret
        refine ⟨ret_bool ?_, _, rfl⟩
        symm
        rw [decide_eq_true_eq]
        exact list_eq_of_getD HL.out (fun j hj => hall.out j (by omega))
  · have h2 : ((xs.length : Int) != ys.length) = true := by simp; omega
    go_enter Try.func15, Try.ntmps15
    go_wp2
    go_ret
    exact ⟨ret_bool (by symm; simp; intro h; exact hlen (by rw [h])), 0, rfl⟩
end Go.Proofs.Ytbejkfeloffccaa
