/-
  Contracts: sample.digit, fringeref13.Digit, sample.Check, fringeref13.Check, fringeref13.Long, fringeref13.Same.
  Finite sums of integers, plain.
-/
import Derived.Test.YtcpmpfnickhojaaProg
import Derived.Test.YtcpmpfnickhojaaPWords
import Derived.Deep.QuietTactic
import Derived.BigQuiet
namespace Go.Proofs.Ytcpmpfnickhojaa
open Go.RowKit
set_option linter.unusedVariables false

def digitOf (x : Int) : Int := if x = 0 then 0 else if x = -3 then 1 else if x = -1 then 2 else if x = 1 then 3 else if x = 3 then 4 else -1

theorem digit_any (x : Int) (w : World) :
    Calls Try.prog 48 #[.int .i64 x] w fun e w' => e = .returned (.int .i64 (digitOf x)) ∧ w = w' := by
  go_enter Try.func48, Try.ntmps48
  go_wp2
  all_goals go_ret
  all_goals (refine ⟨ret_int ?_, rfl⟩; simp_all [digitOf])

theorem Digit_any (x : Int) (w : World) :
    Calls Try.prog 47 #[.int .i64 x] w fun e w' => e = .returned (.int .i64 (digitOf x)) ∧ w = w' := by
  go_enter Try.func47, Try.ntmps47
  go_wp2
  all_goals go_ret
  all_goals (refine ⟨ret_int ?_, rfl⟩; simp_all [digitOf])

/-- What both Checks of a stream answer. -/
def streamErr (xs : List Int) : Int := if 256 < xs.length then 4 else if xs.all (fun x => decide (0 ≤ digitOf x)) then 0 else 8


theorem streamErr_ok {xs : List Int} (h1 : xs.length ≤ 256) (h2 : ∀ x ∈ xs, 0 ≤ digitOf x) : streamErr xs = 0 := by
  unfold streamErr
  rw [if_neg (by omega), if_pos (by simpa using h2)]
theorem streamErr_bad {xs : List Int} {k : Nat} (h1 : xs.length ≤ 256) (hk : k < xs.length) (h2 : digitOf xs[k] < 0) : streamErr xs = 8 := by
  unfold streamErr
  rw [if_neg (by omega), if_neg]
  simp only [List.all_eq_true, decide_eq_true_eq]
  intro h
  have := h _ (List.getElem_mem hk)
  omega
theorem take_all_snoc {p : Int → Prop} {xs : List Int} {k : Nat} (hk : k < xs.length) (h : ∀ x ∈ xs.take k, p x) (h2 : p xs[k]) : ∀ x ∈ xs.take (k + 1), p x := by
  intro x hx
  rw [List.take_succ_eq_append_getElem hk] at hx
  simp only [List.mem_append, List.mem_singleton] at hx
  rcases hx with hx | rfl
  · exact h x hx
  · exact h2

theorem sampleCheck_any (A : Option Addr) (c : Nat) (xs : List Int) (w : World) (hx : RI .i64 w A xs) (hl : xs.length ≤ 140737488355328) :
    Calls Try.prog 30 #[.slice A xs.length c] w fun e w' => e = .returned (.int .i64 (streamErr xs)) ∧ w = w' := by
  go_enter Try.func30, Try.ntmps30
  go_wp2
  · go_ret
    exact ⟨ret_int (by simp [streamErr]; omega), rfl⟩
  go_loop [4, 10] (fun _ i => ∃ k : Nat, k ≤ xs.length ∧ i = .int .i64 k ∧ Hid (∀ x ∈ xs.take k, 0 ≤ digitOf x)) (fun _ i => xs.length - (intOf i).toNat)
  case atStart => exact ⟨0, Nat.zero_le _, rfl, Lib.hid (by simp)⟩
  case round =>
    obtain ⟨k, hk, rfl, hall⟩ := hrel
    by_cases hlt : k < xs.length
    · obtain ⟨b, off, rfl, hc⟩ := hx.at_ hlt
      go_wp2_with (go_at_call 48; refine (digit_any _ _).mono ?_; rintro e w' ⟨rfl, rfl⟩)
      · go_ret
        exact ⟨ret_int (streamErr_bad (by omega) hlt (by assumption)).symm, rfl⟩
      · go_round
        case rel => exact ⟨k + 1, by omega, by go_num, Lib.hid (take_all_snoc hlt hall.out (by assumption))⟩
        case measure => simp [intOf]; omega
    · go_wp2
      go_ret
      exact ⟨ret_int (streamErr_ok (by omega) (by have := hall.out; rwa [List.take_of_length_le (by omega)] at this)).symm, rfl⟩

theorem refCheck13_any (A : Option Addr) (c : Nat) (xs : List Int) (w : World) (hx : RI .i64 w A xs) (hl : xs.length ≤ 140737488355328) :
    Calls Try.prog 28 #[.slice A xs.length c] w fun e w' => e = .returned (.int .i64 (streamErr xs)) ∧ w = w' := by
  go_enter Try.func28, Try.ntmps28
  go_wp2
  · go_ret
    exact ⟨ret_int (by simp [streamErr]; omega), rfl⟩
  go_loop [3] (fun i => ∃ k : Nat, k ≤ xs.length ∧ i = .int .i64 k ∧ Hid (∀ x ∈ xs.take k, 0 ≤ digitOf x)) (fun i => xs.length - (intOf i).toNat)
  case atStart => exact ⟨0, Nat.zero_le _, rfl, Lib.hid (by simp)⟩
  case round =>
    obtain ⟨k, hk, rfl, hall⟩ := hrel
    by_cases hlt : k < xs.length
    · obtain ⟨b, off, rfl, hc⟩ := hx.at_ hlt
      go_wp2_with (go_at_call 47; refine (Digit_any _ _).mono ?_; rintro e w' ⟨rfl, rfl⟩)
      · go_ret
        exact ⟨ret_int (streamErr_bad (by omega) hlt (by assumption)).symm, rfl⟩
      · go_round
        case rel => exact ⟨k + 1, by omega, by go_num, Lib.hid (take_all_snoc hlt hall.out (by assumption))⟩
        case measure => simp [intOf]; omega
    · go_wp2
      go_ret
      exact ⟨ret_int (streamErr_ok (by omega) (by have := hall.out; rwa [List.take_of_length_le (by omega)] at this)).symm, rfl⟩


theorem long13_any (A : Option Addr) (n c : Nat) (w : World) :
    Calls Try.prog 9 #[.slice A n c] w fun e w' => e = .returned (.bool (decide (300 < n))) ∧ w = w' := by
  go_enter Try.func9, Try.ntmps9
  go_wp2
  go_ret
  exact ⟨ret_bool (decide_eq_decide.2 (by omega)), rfl⟩

theorem list_ne_of_getD {xs ys : List Int} {k : Nat} (h : xs.getD k 0 ≠ ys.getD k 0) : decide (xs = ys) = false := by
  simp only [decide_eq_false_iff_not]
  intro e
  exact h (by rw [e])
theorem list_eq_of_getD {xs ys : List Int} (hl : xs.length = ys.length) (h : ∀ j, j < xs.length → xs.getD j 0 = ys.getD j 0) : xs = ys := by
  apply List.ext_getElem hl
  intro j h1 h2
  have := h j h1
  simpa [List.getD_eq_getElem?_getD, List.getElem?_eq_getElem h1, List.getElem?_eq_getElem h2] using this
theorem all_lt_succ {p : Nat → Prop} {k : Nat} (h : ∀ j, j < k → p j) (hk : p k) : ∀ j, j < k + 1 → p j := by
  intro j hj
  rcases Nat.lt_or_ge j k with h1 | h1
  · exact h j h1
  · obtain rfl : j = k := by omega
    exact hk

theorem same13_any (A B : Option Addr) (c d : Nat) (xs ys : List Int) (w : World) (hx : RI .i64 w A xs) (hy : RI .i64 w B ys) (hl : xs.length ≤ 140737488355328) (hl2 : ys.length ≤ 140737488355328) :
    Calls Try.prog 20 #[.slice A xs.length c, .slice B ys.length d] w fun e w' => e = .returned (.bool (decide (xs = ys))) ∧ ∃ n, w' = w.drewN n := by
  by_cases hlen : xs.length = ys.length
  · have h2 : ((xs.length : Int) != ys.length) = false := by simp; omega
    have hle : xs.length ≤ ys.length := by omega
    have HL := Lib.hid hlen
    clear hlen
    go_enter Try.func20, Try.ntmps20
    go_wp2
    go_loopw [5] (fun i wr => ∃ k n : Nat, k ≤ xs.length ∧ i = .int .i64 k ∧ wr = w.drewN n ∧ Hid (∀ j, j < k → xs.getD j 0 = ys.getD j 0)) (fun i _ => xs.length - (intOf i).toNat)
    case atStart => exact ⟨0, 0, Nat.zero_le _, rfl, rfl, Lib.hid (by simp)⟩
    case round =>
      obtain ⟨k, n, hk, rfl, rfl, hall⟩ := hrel
      by_cases hlt : k < xs.length
      · obtain ⟨b, off, rfl, hc⟩ := hx.at_ hlt
        have hlt2 := Nat.lt_of_lt_of_le hlt hle
        obtain ⟨b2, off2, rfl, hc2⟩ := hy.at_ hlt2
        go_wp2
        go_quiet (fail)
        go_wp2
        · have hv : (xs[k] != ys[k]) = true := by assumption
          go_ret
          refine ⟨ret_bool (list_ne_of_getD (k := k) ?_).symm, n + nq, by first | rfl | rw [World.drewN_drewN]⟩
          simpa [List.getD_eq_getElem?_getD, hlt, hlt2] using hv
        · have hv : (xs[k] != ys[k]) = false := by assumption
          go_roundw
          case rel => exact ⟨k + 1, _, by omega, by go_num, rfl, Lib.hid (all_lt_succ hall.out (by simpa [List.getD_eq_getElem?_getD, hlt, hlt2] using hv))⟩
          case measure => simp [intOf]; omega
      · go_wp2
        go_ret
        refine ⟨ret_bool ?_, _, rfl⟩
        symm
        rw [decide_eq_true_eq]
        exact list_eq_of_getD HL.out (fun j hj => hall.out j (by omega))
  · have h2 : ((xs.length : Int) != ys.length) = true := by simp; omega
    go_enter Try.func20, Try.ntmps20
    go_wp2
    go_ret
    exact ⟨ret_bool (by symm; simp; intro h; exact hlen (by rw [h])), 0, rfl⟩
end Go.Proofs.Ytcpmpfnickhojaa
namespace Go.Proofs.Ytcpmpfnickhojaa
set_option linter.unusedVariables false

def sumR (f : Nat → Int) : Nat → Int
  | 0 => 0
  | n + 1 => sumR f n + f n
theorem sumR_succ (f : Nat → Int) (n : Nat) : sumR f (n + 1) = sumR f n + f n := rfl
theorem sumR_congr {f g : Nat → Int} {n : Nat} (h : ∀ i, i < n → f i = g i) : sumR f n = sumR g n := by
  induction n with
  | zero => rfl
  | succ n ih => rw [sumR_succ, sumR_succ, ih (fun i hi => h i (by omega)), h n (by omega)]
theorem sumR_zero {f : Nat → Int} {n : Nat} (h : ∀ i, i < n → f i = 0) : sumR f n = 0 := by
  induction n with
  | zero => rfl
  | succ n ih => rw [sumR_succ, ih (fun i hi => h i (by omega)), h n (by omega)]; rfl
theorem sumR_add (f g : Nat → Int) (n : Nat) : sumR (fun i => f i + g i) n = sumR f n + sumR g n := by
  induction n with
  | zero => rfl
  | succ n ih => rw [sumR_succ, sumR_succ, sumR_succ, ih]; omega
theorem sumR_mul (c : Int) (f : Nat → Int) (n : Nat) : sumR (fun i => c * f i) n = c * sumR f n := by
  induction n with
  | zero => simp [sumR]
  | succ n ih => rw [sumR_succ, sumR_succ, ih, Int.mul_add]
theorem sumR_mul_right (c : Int) (f : Nat → Int) (n : Nat) : sumR (fun i => f i * c) n = sumR f n * c := by
  induction n with
  | zero => simp [sumR]
  | succ n ih => rw [sumR_succ, sumR_succ, ih, Int.add_mul]
theorem sumR_le {f g : Nat → Int} {n : Nat} (h : ∀ i, i < n → f i ≤ g i) : sumR f n ≤ sumR g n := by
  induction n with
  | zero => exact Int.le_refl _
  | succ n ih => rw [sumR_succ, sumR_succ]; have := ih (fun i hi => h i (by omega)); have := h n (by omega); omega
theorem sumR_comm (f : Nat → Nat → Int) (n m : Nat) : sumR (fun i => sumR (fun j => f i j) m) n = sumR (fun j => sumR (fun i => f i j) n) m := by
  induction n with
  | zero => simp [sumR, sumR_zero]
  | succ n ih => rw [sumR_succ, ih, ← sumR_add]; rfl
theorem sumR_const (c : Int) (n : Nat) : sumR (fun _ => c) n = n * c := by
  induction n with
  | zero => simp [sumR]
  | succ n ih => rw [sumR_succ, ih, Int.natCast_succ, Int.add_mul, Int.one_mul]
/-- A sum with one term that counts. -/
theorem sumR_one {f : Nat → Int} {n k : Nat} (hk : k < n) (h : ∀ i, i < n → i ≠ k → f i = 0) : sumR f n = f k := by
  induction n with
  | zero => omega
  | succ n ih =>
    rw [sumR_succ]
    rcases Nat.lt_or_ge k n with h1 | h1
    · rw [ih h1 (fun i hi hne => h i (by omega) hne), h n (by omega) (by omega)]; omega
    · obtain rfl : k = n := by omega
      rw [sumR_zero (fun i hi => h i (by omega) (by omega))]; omega
theorem sumR_split (f : Nat → Int) (n m : Nat) : sumR f (n + m) = sumR f n + sumR (fun i => f (n + i)) m := by
  induction m with
  | zero => simp [sumR]
  | succ m ih => rw [Nat.add_succ, sumR_succ, sumR_succ, ih]; omega
theorem sumR_head (f : Nat → Int) (n : Nat) : sumR f (n + 1) = f 0 + sumR (fun i => f (i + 1)) n := by
  induction n with
  | zero => simp [sumR]
  | succ n ih => rw [sumR_succ, ih, sumR_succ]; omega
theorem sumR_rev (f : Nat → Int) (n : Nat) : sumR f n = sumR (fun i => f (n - 1 - i)) n := by
  induction n with
  | zero => rfl
  | succ n ih =>
    rw [sumR_head (fun i => f (n + 1 - 1 - i)), sumR_succ, ih]
    have e : sumR (fun i => f (n + 1 - 1 - (i + 1))) n = sumR (fun i => f (n - 1 - i)) n := sumR_congr (fun i hi => by congr 1; omega)
    rw [e]
    simp only [Nat.add_sub_cancel, Nat.sub_zero]
    omega
end Go.Proofs.Ytcpmpfnickhojaa
