/-
  Contracts of lag.Check, and of fringeref16.even, Check, Same, Long, for other seats.
-/
import Derived.Test.YtjhigfhgchpjcaaProg
import Derived.Test.YtjhigfhgchpjcaaGen
import Derived.Deep.QuietTactic
import Derived.BigQuiet
import Derived.Deep.LoopGhost
import Derived.WalkSmall
namespace Go.Proofs.Ytjhigfhgchpjcaa
open Go.RowKit
set_option linter.unusedVariables false
namespace Lagc
theorem all_lt_succ {p : Nat → Prop} {k : Nat} (h : ∀ j, j < k → p j) (hk : p k) : ∀ j, j < k + 1 → p j := by
  intro j hj
  rcases Nat.lt_or_ge j k with h1 | h1
  · exact h j h1
  · obtain rfl : j = k := by omega
    exact hk
def okLag (a : Int × Int) : Bool := decide (0 ≤ a.2 ∧ a.2 ≤ 256 ∧ -9 * a.2 ≤ a.1 ∧ a.1 ≤ 9 * a.2 ∧ (a.1 - a.2) % 2 = 0)
def lagErr (l : List (Int × Int)) : Int := if 511 < l.length then 4 else if l.length % 2 = 0 then 8 else if l.all okLag then 0 else 8


theorem lagErr_many {l : List (Int × Int)} (h : 511 < l.length) : lagErr l = 4 := by unfold lagErr; rw [if_pos h]
theorem lagErr_even {l : List (Int × Int)} (h : l.length ≤ 511) (h2 : l.length % 2 = 0) : lagErr l = 8 := by unfold lagErr; rw [if_neg (by omega), if_pos h2]
theorem lagErr_bad {l : List (Int × Int)} {k : Nat} (h : l.length ≤ 511) (hk : k < l.length) (h2 : okLag l[k] = false) : lagErr l = 8 := by
  unfold lagErr
  rw [if_neg (by omega)]
  split
  · rfl
  · rw [if_neg]
    simp only [List.all_eq_true]
    intro h3
    have := h3 _ (List.getElem_mem hk)
    simp [h2] at this
theorem lagErr_ok {l : List (Int × Int)} (h : l.length ≤ 511) (h1 : ¬ l.length % 2 = 0) (h2 : ∀ x ∈ l, okLag x = true) : lagErr l = 0 := by
  unfold lagErr
  rw [if_neg (by omega), if_neg h1, if_pos (by simpa using h2)]
theorem takeAll_snoc {α : Type} {p : α → Prop} {xs : List α} {k : Nat} (hk : k < xs.length) (h : ∀ x ∈ xs.take k, p x) (h2 : p xs[k]) : ∀ x ∈ xs.take (k + 1), p x := by
  intro x hx
  rw [List.take_succ_eq_append_getElem hk] at hx
  simp only [List.mem_append, List.mem_singleton] at hx
  rcases hx with hx | rfl
  · exact h x hx
  · exact h2
theorem takeAll_end {α : Type} {p : α → Prop} {xs : List α} {k : Nat} (hk : xs.length ≤ k) (h : ∀ x ∈ xs.take k, p x) : ∀ x ∈ xs, p x := by
  rwa [List.take_of_length_le hk] at h


theorem tmod2_iff (x : Int) : x.tmod 2 = 0 ↔ x % 2 = 0 :=
  ⟨fun h => Int.emod_eq_zero_of_dvd (Int.dvd_of_tmod_eq_zero h), fun h => Int.tmod_eq_zero_of_dvd (Int.dvd_of_emod_eq_zero h)⟩
theorem okLag_no {a : Int × Int} (h : a.2 < 0 ∨ 256 < a.2 ∨ a.1 < -9 * a.2 ∨ 9 * a.2 < a.1) : okLag a = false := by
  simp only [okLag, decide_eq_false_iff_not]; omega
theorem okLag_odd {a : Int × Int} (h : ((a.1 - a.2).tmod 2 != 0) = true) : okLag a = false := by
  have h2 : ¬ (a.1 - a.2) % 2 = 0 := by rw [← tmod2_iff]; simpa using h
  simp only [okLag, decide_eq_false_iff_not]; omega
theorem okLag_yes {a : Int × Int} (h1 : 0 ≤ a.2) (h2 : a.2 ≤ 256) (h3 : -9 * a.2 ≤ a.1) (h4 : a.1 ≤ 9 * a.2) (h : ((a.1 - a.2).tmod 2 != 0) = false) : okLag a = true := by
  have h5 : (a.1 - a.2) % 2 = 0 := by rw [← tmod2_iff]; simpa using h
  simp only [okLag, decide_eq_true_eq]; omega

theorem lagCheck_any (A : Option Addr) (c : Nat) (l : List (Int × Int)) (w : World) (hx : RL w A l) (hl : l.length ≤ 140737488355328) :
    Calls Try.prog 33 #[.slice A l.length c] w fun e w' => e = .returned (.int .i64 (lagErr l)) ∧ Below w.heap.size w w' := by
  by_cases hp : l.length % 2 = 0
  · have h2 : ((l.length : Int) % 2 == 0) = true := by simp; omega
    have HP := Lib.hid hp
    clear hp
    go_enter Try.func33, Try.ntmps33
    go_wp2
    · go_ret
      exact ⟨ret_int (lagErr_many (by omega)).symm, Below.refl _ _⟩
    · go_ret
      exact ⟨ret_int (lagErr_even (by omega) HP.out).symm, Below.refl _ _⟩
  have h2 : ((l.length : Int) % 2 == 0) = false := by simp; omega
  go_enter Try.func33, Try.ntmps33
  go_wp2
  · go_ret
    exact ⟨ret_int (lagErr_many (by omega)).symm, Below.refl _ _⟩
  go_loopg [4, 14] l.length (fun gk _ i wr => ∃ k : Nat, k + gk = l.length ∧ i = .int .i64 k ∧ Below w.heap.size w wr ∧ Hid (∀ x ∈ l.take k, okLag x = true))
  case atStart => exact ⟨0, by omega, rfl, Below.refl _ _, Lib.hid (by simp)⟩
  case round =>
    obtain ⟨k, hk, rfl, hb, hall⟩ := hrel
    have hk' : k ≤ l.length := by omega
    have HK := Lib.hid hk
    clear hk
    by_cases hlt : k < l.length
    · obtain ⟨b, off, rfl, _, hc1, hc2⟩ := (hx.keep hb).at_ hlt
      go_wp2
      all_goals first
        | (go_ret; exact ⟨ret_int (lagErr_bad (by omega) hlt (by first | exact okLag_odd (by assumption) | exact okLag_no (by omega))).symm, hb.alloc hb.size _⟩)
        | (go_roundg (gk - 1)
           case rel => exact ⟨k + 1, by have := HK.out; omega, by go_num, hb.alloc hb.size _, Lib.hid (takeAll_snoc hlt hall.out (okLag_yes (by omega) (by omega) (by omega) (by omega) (by assumption)))⟩
           case measure => have := HK.out; omega)
    · go_wp2
      go_ret
      exact ⟨ret_int (lagErr_ok (by omega) hp (takeAll_end (by omega) hall.out)).symm, hb⟩
theorem even_any (x : Int) (w : World) :
    Calls Try.prog 46 #[.int .i64 x] w fun e w' => e = .returned (.bool (x.tmod 2 == 0)) ∧ w = w' := by
  go_enter Try.func46, Try.ntmps46
  go_wp2
  go_ret
  exact ⟨rfl, rfl⟩

theorem long16_any (A : Option Addr) (n c : Nat) (w : World) :
    Calls Try.prog 10 #[.slice A n c] w fun e w' => e = .returned (.bool (decide (600 < n))) ∧ w = w' := by
  go_enter Try.func10, Try.ntmps10
  go_wp2
  go_ret
  exact ⟨ret_bool (decide_eq_decide.2 (by omega)), rfl⟩

theorem okLag_par {a : Int × Int} (h : (!((a.1.tmod 2 == 0) == (a.2 % 2 == 0))) = true) : okLag a = false := by
  have e : (a.1.tmod 2 == 0) = (a.1 % 2 == 0) := by rw [Bool.eq_iff_iff]; simp [tmod2_iff]
  rw [e] at h
  have h2 : ¬ (a.1 - a.2) % 2 = 0 := by
    rcases Int.emod_two_eq a.1 with h1 | h1 <;> rcases Int.emod_two_eq a.2 with h3 | h3 <;> simp [h1, h3] at h <;> omega
  simp only [okLag, decide_eq_false_iff_not]; omega
theorem okLag_same {a : Int × Int} (h1 : 0 ≤ a.2) (h2 : a.2 ≤ 256) (h3 : -9 * a.2 ≤ a.1) (h4 : a.1 ≤ 9 * a.2) (h : (!((a.1.tmod 2 == 0) == (a.2 % 2 == 0))) = false) : okLag a = true := by
  have e : (a.1.tmod 2 == 0) = (a.1 % 2 == 0) := by rw [Bool.eq_iff_iff]; simp [tmod2_iff]
  rw [e] at h
  have h5 : (a.1 - a.2) % 2 = 0 := by
    rcases Int.emod_two_eq a.1 with h6 | h6 <;> rcases Int.emod_two_eq a.2 with h7 | h7 <;> simp [h6, h7] at h <;> omega
  simp only [okLag, decide_eq_true_eq]; omega

theorem refCheck16_any (A : Option Addr) (c : Nat) (l : List (Int × Int)) (w : World) (hx : RL w A l) (hl : l.length ≤ 140737488355328) :
    Calls Try.prog 30 #[.slice A l.length c] w fun e w' => e = .returned (.int .i64 (lagErr l)) ∧ Below w.heap.size w w' := by
  by_cases hp : l.length % 2 = 0
  · have h2 : ((l.length : Int).tmod 2 == 0) = true := by rw [beq_iff_eq, tmod2_iff]; omega
    have HP := Lib.hid hp
    clear hp
    go_enter Try.func30, Try.ntmps30
    go_wp2_with (go_at_call 46; refine (even_any _ _).mono ?_; rintro e w' ⟨rfl, rfl⟩)
    · go_ret
      exact ⟨ret_int (lagErr_many (by omega)).symm, Below.refl _ _⟩
    · go_ret
      exact ⟨ret_int (lagErr_even (by omega) HP.out).symm, Below.refl _ _⟩
  have h2 : ((l.length : Int).tmod 2 == 0) = false := by rw [beq_eq_false_iff_ne, Ne, tmod2_iff]; omega
  go_enter Try.func30, Try.ntmps30
  go_wp2_with (go_at_call 46; refine (even_any _ _).mono ?_; rintro e w' ⟨rfl, rfl⟩)
  · go_ret
    exact ⟨ret_int (lagErr_many (by omega)).symm, Below.refl _ _⟩
  go_loopg [3, 4] l.length (fun gk i _ wr => ∃ k : Nat, k + gk = l.length ∧ i = .int .i64 k ∧ Below w.heap.size w wr ∧ Hid (∀ x ∈ l.take k, okLag x = true))
  case atStart => exact ⟨0, by omega, rfl, Below.refl _ _, Lib.hid (by simp)⟩
  case round =>
    obtain ⟨k, hk, rfl, hb, hall⟩ := hrel
    have hk' : k ≤ l.length := by omega
    have HK := Lib.hid hk
    clear hk
    by_cases hlt : k < l.length
    · obtain ⟨b, off, rfl, _, hc1, hc2⟩ := (hx.keep hb).at_ hlt
      by_cases q1 : l[k].2 < 0
      · go_wp2
        go_quiet (fail)
        go_wp2
        go_ret
        exact ⟨ret_int (lagErr_bad (by omega) hlt (okLag_no (by omega))).symm, below_drewN (hb.alloc hb.size _) _⟩
      have d1 : decide (l[k].2 < 0) = false := by simpa using q1
      by_cases q2 : 256 < l[k].2
      · go_wp2
        go_quiet (fail)
        go_wp2
        go_ret
        exact ⟨ret_int (lagErr_bad (by omega) hlt (okLag_no (by omega))).symm, below_drewN (hb.alloc hb.size _) _⟩
      have d2 : decide (256 < l[k].2) = false := by simpa using q2
      by_cases q3 : l[k].1 < -9 * l[k].2
      · go_wp2
        go_quiet (fail)
        go_wp2
        go_ret
        exact ⟨ret_int (lagErr_bad (by omega) hlt (okLag_no (by omega))).symm, below_drewN (hb.alloc hb.size _) _⟩
      have d3 : decide (l[k].1 < -9 * l[k].2) = false := by simpa using q3
      by_cases q4 : 9 * l[k].2 < l[k].1
      · go_wp2
        go_quiet (fail)
        go_wp2
        go_ret
        exact ⟨ret_int (lagErr_bad (by omega) hlt (okLag_no (by omega))).symm, below_drewN (hb.alloc hb.size _) _⟩
      have d4 : decide (9 * l[k].2 < l[k].1) = false := by simpa using q4
      go_wp2
      go_quiet ((go_at_call 46; exact quiet_left (even_any _ _)))
      go_wp2
      · have hq : (!((l[k].1.tmod 2 == 0) == (l[k].2 % 2 == 0))) = true := by assumption
        go_ret
        exact ⟨ret_int (lagErr_bad (by omega) hlt (okLag_par hq)).symm, below_drewN (hb.alloc hb.size _) _⟩
      · have hq : (!((l[k].1.tmod 2 == 0) == (l[k].2 % 2 == 0))) = false := by assumption
        go_roundg (gk - 1)
        case rel => exact ⟨k + 1, by have := HK.out; omega, by go_num, below_drewN (hb.alloc hb.size _) _, Lib.hid (takeAll_snoc hlt hall.out (okLag_same (by omega) (by omega) (by omega) (by omega) hq))⟩
        case measure => have := HK.out; omega
    · go_wp2
      go_ret
      exact ⟨ret_int (lagErr_ok (by omega) hp (takeAll_end (by omega) hall.out)).symm, hb⟩

theorem plist_ne {xs ys : List (Int × Int)} {k : Nat} (h : xs.getD k (0, 0) ≠ ys.getD k (0, 0)) : decide (xs = ys) = false := by
  simp only [decide_eq_false_iff_not]
  intro e
  exact h (by rw [e])
theorem plist_eq {α : Type} {d : α} {xs ys : List α} (hl : xs.length = ys.length) (h : ∀ j, j < xs.length → xs.getD j d = ys.getD j d) : xs = ys := by
  apply List.ext_getElem hl
  intro j h1 h2
  have := h j h1
  simpa [List.getD_eq_getElem?_getD, List.getElem?_eq_getElem h1, List.getElem?_eq_getElem h2] using this

theorem eqg_lag : Try.prog.eqGuardType Try.prog.depth 65 = false := by kernel_rfl
theorem sih_lag : Try.prog.stoodInHeld 65 = false := by kernel_rfl
theorem und_lag : Try.prog.underlying 65 = some (.struct (Try.prog.fieldsOf 65)) := by kernel_rfl
theorem eq_lag (x0 x1 y0 y1 : Int) (w : World) : (Op.equalIn 10000 65 (.agg #[.int .i64 x0, .int .i64 x1]) (.agg #[.int .i64 y0, .int .i64 y1])).run Try.prog w = .ok (x0 == y0 && x1 == y1) w := by
  have e3 := Try.underlying3
  rw [run_equalIn_agg _ _ _ _ _ und_lag sih_lag]
  by_cases h0 : x0 = y0 <;> by_cases h1 : x1 = y1 <;> simp [go_sem, Try.underlying65, h0, h1]

theorem pair_ne {a b : Int × Int} (h : (!a.1 == b.1) = true ∨ (!a.2 == b.2) = true) : a ≠ b := by
  intro e; subst e; simp at h
theorem pair_eq {a b : Int × Int} (h : (!a.1 == b.1) = false ∧ (!a.2 == b.2) = false) : a = b := by
  simp at h; exact Prod.ext h.1 h.2

set_option maxRecDepth 20000 in
theorem same16_any (A B : Option Addr) (c d : Nat) (xs ys : List (Int × Int)) (w : World) (hx : RL w A xs) (hy : RL w B ys) (hl : xs.length ≤ 140737488355328) (hl2 : ys.length ≤ 140737488355328) :
    Calls Try.prog 19 #[.slice A xs.length c, .slice B ys.length d] w fun e w' => e = .returned (.bool (decide (xs = ys))) ∧ ∃ n, w' = w.drewN n := by
  by_cases hlen : xs.length = ys.length
  · have h2 : ((xs.length : Int) != ys.length) = false := by simp; omega
    have hle : xs.length ≤ ys.length := by omega
    have HL := Lib.hid hlen
    clear hlen
    go_enter Try.func19, Try.ntmps19
    go_wp2
    go_loopg [5] xs.length (fun gk i wr => ∃ k n : Nat, k + gk = xs.length ∧ i = .int .i64 k ∧ wr = w.drewN n ∧ Hid (∀ j, j < k → xs.getD j (0, 0) = ys.getD j (0, 0)))
    case atStart => exact ⟨0, 0, by omega, rfl, rfl, Lib.hid (by simp)⟩
    case round =>
      obtain ⟨k, n, hk, rfl, rfl, hall⟩ := hrel
      have hk' : k ≤ xs.length := by omega
      have HK := Lib.hid hk
      clear hk
      by_cases hlt : k < xs.length
      · obtain ⟨b, off, rfl, _, hc, hd⟩ := hx.at_ hlt
        have hlt2 := Nat.lt_of_lt_of_le hlt hle
        obtain ⟨b2, off2, rfl, _, hc2, hd2⟩ := hy.at_ hlt2
        have g1 := eqg_lag
        have g2 := eq_lag
        go_wp2
        go_quiet (fail)
        go_wp2
        · have hv : (!xs[k].1 == ys[k].1) = true ∨ (!xs[k].2 == ys[k].2) = true := by assumption
          go_ret
          exact ⟨ret_bool (plist_ne (k := k) (by rw [getD_lt _ _ hlt, getD_lt _ _ hlt2]; exact pair_ne hv)).symm, n + nq, by first | rfl | rw [World.drewN_drewN]⟩
        · have hv : (!xs[k].1 == ys[k].1) = false ∧ (!xs[k].2 == ys[k].2) = false := by assumption
          go_roundg (gk - 1)
          case rel => exact ⟨k + 1, _, by have := HK.out; omega, by go_num, rfl, Lib.hid (all_lt_succ hall.out (by rw [getD_lt _ _ hlt, getD_lt _ _ hlt2]; exact pair_eq hv))⟩
          case measure => have := HK.out; omega
      · go_wp2
        go_ret
        refine ⟨ret_bool ?_, _, rfl⟩
        symm
        rw [decide_eq_true_eq]
        exact plist_eq HL.out (fun j hj => hall.out j (by omega))
  · have h2 : ((xs.length : Int) != ys.length) = true := by simp; omega
    go_enter Try.func19, Try.ntmps19
    go_wp2
    go_ret
    exact ⟨ret_bool (by symm; simp; intro h; exact hlen (by rw [h])), 0, rfl⟩
end Lagc
end Go.Proofs.Ytjhigfhgchpjcaa
