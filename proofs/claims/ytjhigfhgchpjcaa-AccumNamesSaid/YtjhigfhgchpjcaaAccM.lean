/-
  Contracts of the reference: Runs, In, Check.
-/
import Derived.Test.YtjhigfhgchpjcaaAccK
namespace Go.Proofs.Ytjhigfhgchpjcaa
open Go.RowKit Runs Lagc
set_option linter.unusedVariables false
set_option linter.unusedSimpArgs false

theorem gOk_no {l : List (Int × Int)} {k : Nat} (hk : k < l.length) (h : l[k].1 < 0 ∨ 1000000000 < l[k].1 ∨ l[k].2 < 1 ∨ 1000000000 - l[k].1 < l[k].2) : gOk l k = false := by
  unfold gOk
  rw [getD_lt _ _ hk, decide_eq_false_iff_not]
  omega
theorem gOk_no2 {l : List (Int × Int)} {k : Nat} (hk : k < l.length) (h0 : 0 < k) (h : l[k].1 ≤ (l.getD (k - 1) (0, 0)).1 + (l.getD (k - 1) (0, 0)).2) : gOk l k = false := by
  unfold gOk
  rw [getD_lt _ _ hk, decide_eq_false_iff_not]
  omega
theorem gOk_yes {l : List (Int × Int)} {k : Nat} (hk : k < l.length) (h1 : ¬ l[k].1 < 0) (h2 : ¬ l[k].2 < 1) (h3 : ¬ 1000000000 - l[k].1 < l[k].2) (h : k = 0 ∨ (l.getD (k - 1) (0, 0)).1 + (l.getD (k - 1) (0, 0)).2 < l[k].1) : gOk l k = true := by
  unfold gOk
  rw [getD_lt _ _ hk, decide_eq_true_eq]
  exact ⟨by omega, by omega, by omega, h⟩
set_option maxHeartbeats 1000000 in
theorem refRuns_any (A : Option Addr) (c : Nat) (l : List (Int × Int)) (w : World) (hx : RL w A l) (hl : l.length ≤ 140737488355328) (hr : ∀ x ∈ l, -9223372036854775808 ≤ x.1 ∧ x.1 ≤ 9223372036854775807) :
    Calls Try.prog 40 #[.slice A l.length c] w fun e w' => e = .returned (.bool (runB l)) ∧ Below w.heap.size w w' := by
  have HX := Lib.hid hr
  clear hr
  go_enter Try.func40, Try.ntmps40
  go_wp2
  go_loopg [3] l.length (fun gk i wr => ∃ k : Nat, k + gk = l.length ∧ i = .int .i64 k ∧ Below w.heap.size w wr ∧ Hid (∀ j, j < k → gOk l j = true))
  case atStart => exact ⟨0, by omega, rfl, Below.refl _ _, Lib.hid (by intro j hj; omega)⟩
  case round =>
    obtain ⟨k, hk, rfl, hb, hall⟩ := hrel
    have hk' : k ≤ l.length := by omega
    have HK := Lib.hid hk
    clear hk
    by_cases hlt : k < l.length
    · obtain ⟨b, off, rfl, _, hc1, hc2⟩ := (hx.keep hb).at_ hlt
      rw [getD_lt _ _ hlt] at hc1 hc2
      have hxr := HX.out _ (List.getElem_mem hlt)
      by_cases q1 : l[k].1 < 0
      · go_wp2
        go_quiet (fail)
        go_wp2
        go_ret
        exact ⟨ret_bool (runB_no hlt (gOk_no hlt (by omega))).symm, by (repeat (first | with_reducible exact Below.refl _ _ | assumption | with_reducible refine below_drewN ?_ _ | with_reducible refine Below.drew ?_ | with_reducible refine balloc ?_ _ | (with_reducible refine Below.setCell ?_ ?_ _; rotate_left; focus (first | (simp; done) | (simp; omega) | omega))))⟩
      have d1 : decide (l[k].1 < 0) = false := by simpa using q1
      by_cases q2 : 1000000000 < l[k].1
      · go_wp2
        go_quiet (fail)
        go_wp2
        go_ret
        exact ⟨ret_bool (runB_no hlt (gOk_no hlt (by omega))).symm, by (repeat (first | with_reducible exact Below.refl _ _ | assumption | with_reducible refine below_drewN ?_ _ | with_reducible refine Below.drew ?_ | with_reducible refine balloc ?_ _ | (with_reducible refine Below.setCell ?_ ?_ _; rotate_left; focus (first | (simp; done) | (simp; omega) | omega))))⟩
      have d2 : decide (1000000000 < l[k].1) = false := by simpa using q2
      by_cases q3 : l[k].2 < 1
      · go_wp2
        go_quiet (fail)
        go_wp2
        go_ret
        exact ⟨ret_bool (runB_no hlt (gOk_no hlt (by omega))).symm, by (repeat (first | with_reducible exact Below.refl _ _ | assumption | with_reducible refine below_drewN ?_ _ | with_reducible refine Below.drew ?_ | with_reducible refine balloc ?_ _ | (with_reducible refine Below.setCell ?_ ?_ _; rotate_left; focus (first | (simp; done) | (simp; omega) | omega))))⟩
      have d3 : decide (l[k].2 < 1) = false := by simpa using q3
      have hw : IntKind.i64.wrap (1000000000 - l[k].1) = 1000000000 - l[k].1 := IntWalk.i64_in _ (by omega)
      by_cases q4 : 1000000000 - l[k].1 < l[k].2
      · go_wp2
        go_quiet (fail)
        go_wp2
        go_ret
        exact ⟨ret_bool (runB_no hlt (gOk_no hlt (by omega))).symm, by (repeat (first | with_reducible exact Below.refl _ _ | assumption | with_reducible refine below_drewN ?_ _ | with_reducible refine Below.drew ?_ | with_reducible refine balloc ?_ _ | (with_reducible refine Below.setCell ?_ ?_ _; rotate_left; focus (first | (simp; done) | (simp; omega) | omega))))⟩
      have d4 : decide (1000000000 - l[k].1 < l[k].2) = false := by simpa using q4
      by_cases hk0 : 0 < k
      · have hlt1 : k - 1 < l.length := by omega
        obtain ⟨b', off', e, _, hc3, hc4⟩ := (hx.keep hb).at_ hlt1
        obtain ⟨rfl, rfl⟩ : b = b' ∧ off = off' := by injection e with e; injection e with e1 e2; exact ⟨e1, e2⟩
        clear e
        have hp := hall.out (k - 1) (by omega)
        unfold gOk at hp
        rw [decide_eq_true_eq] at hp
        obtain ⟨hp1, hp2, hp3, _⟩ := hp
        have HN := fun h => gOk_no2 hlt hk0 h
        have HY := fun h => gOk_yes hlt q1 q3 q4 (.inr h)
        have HN' := Lib.hid HN
        have HY' := Lib.hid HY
        clear HN HY
        generalize l.getD (k - 1) (0, 0) = y at *
        have hw2 : IntKind.i64.wrap ((k : Int) - 1) = ((k - 1 : Nat) : Int) := by rw [IntWalk.i64_in _ (by omega)]; omega
        have hw3 : IntKind.i64.wrap (y.1 + y.2) = y.1 + y.2 := IntWalk.i64_in _ (by omega)
        have hk1 : (0 : Int) < (k : Int) := by omega
        by_cases q5 : l[k].1 ≤ y.1 + y.2
        · go_wp2
          go_quiet (fail)
          go_wp2
          go_quiet (fail)
          go_wp2
          go_ret
          exact ⟨ret_bool (runB_no hlt (HN'.out q5)).symm, by (repeat (first | with_reducible exact Below.refl _ _ | assumption | with_reducible refine below_drewN ?_ _ | with_reducible refine Below.drew ?_ | with_reducible refine balloc ?_ _ | (with_reducible refine Below.setCell ?_ ?_ _; rotate_left; focus (first | (simp; done) | (simp; omega) | omega))))⟩
        · have d5 : decide (l[k].1 ≤ y.1 + y.2) = false := by simpa using q5
          go_wp2
          go_quiet (fail)
          go_wp2
          go_quiet (fail)
          go_wp2
          go_roundg (gk - 1)
          case rel => exact ⟨k + 1, by have := HK.out; omega, by go_num, by (repeat (first | with_reducible exact Below.refl _ _ | assumption | with_reducible refine below_drewN ?_ _ | with_reducible refine Below.drew ?_ | with_reducible refine balloc ?_ _ | (with_reducible refine Below.setCell ?_ ?_ _; rotate_left; focus (first | (simp; done) | (simp; omega) | omega)))), Lib.hid (all_lt_succ hall.out (HY'.out (by omega)))⟩
          case measure => have := HK.out; omega
      · have HY := Lib.hid (gOk_yes hlt q1 q3 q4 (.inl (by omega)))
        have d6 : decide (0 < k) = false := by simpa using hk0
        have d7 : decide (0 < (k : Int)) = false := by simp; omega
        go_wp2
        go_quiet (fail)
        go_wp2
        go_quiet (fail)
        go_wp2
        go_roundg (gk - 1)
        case rel => exact ⟨k + 1, by have := HK.out; omega, by go_num, by (repeat (first | with_reducible exact Below.refl _ _ | assumption | with_reducible refine below_drewN ?_ _ | with_reducible refine Below.drew ?_ | with_reducible refine balloc ?_ _ | (with_reducible refine Below.setCell ?_ ?_ _; rotate_left; focus (first | (simp; done) | (simp; omega) | omega)))), Lib.hid (all_lt_succ hall.out HY.out)⟩
        case measure => have := HK.out; omega
    · go_wp2
      go_ret
      exact ⟨ret_bool (runB_all.2 (fun j hj => hall.out j (by omega))).symm, hb⟩
def inB (l : List (Int × Int)) (t : Int) : Bool := l.any (fun g => decide (g.1 ≤ t ∧ t < g.1 + g.2))
theorem inB_mem {l : List (Int × Int)} {t : Int} (h : mem l t) : inB l t = true := by
  obtain ⟨g, hg, hi⟩ := h
  unfold inB
  rw [List.any_eq_true]
  exact ⟨g, hg, by simpa [inG] using hi⟩
theorem refIn_any (A : Option Addr) (c : Nat) (l : List (Int × Int)) (t : Int) (w : World) (hx : RL w A l) (hl : l.length ≤ 140737488355328) (hr : ∀ x ∈ l, okG x) :
    Calls Try.prog 31 #[.slice A l.length c, .int .i64 t] w fun e w' => e = .returned (.bool (inB l t)) ∧ Below w.heap.size w w' := by
  have HX := Lib.hid hr
  clear hr
  go_enter Try.func31, Try.ntmps31
  go_wp2
  go_loopg [5] l.length (fun gk i wr => ∃ k : Nat, k + gk = l.length ∧ i = .int .i64 k ∧ Below w.heap.size w wr ∧ Hid (∀ x ∈ l.take k, decide (x.1 ≤ t ∧ t < x.1 + x.2) = false))
  case atStart => exact ⟨0, by omega, rfl, Below.refl _ _, Lib.hid (by simp)⟩
  case round =>
    obtain ⟨k, hk, rfl, hb, hall⟩ := hrel
    have hk' : k ≤ l.length := by omega
    have HK := Lib.hid hk
    clear hk
    by_cases hlt : k < l.length
    · obtain ⟨b, off, rfl, _, hc1, hc2⟩ := (hx.keep hb).at_ hlt
      rw [getD_lt _ _ hlt] at hc1 hc2
      have hxr := HX.out _ (List.getElem_mem hlt)
      unfold okG at hxr
      have HY := Lib.hid (fun h => any_yes (p := fun g : Int × Int => decide (g.1 ≤ t ∧ t < g.1 + g.2)) hlt h)
      have HN := Lib.hid (fun h => takeAll_snoc (p := fun g : Int × Int => decide (g.1 ≤ t ∧ t < g.1 + g.2) = false) hlt hall.out h)
      generalize l[k] = y at *
      have hw3 : IntKind.i64.wrap (y.1 + y.2) = y.1 + y.2 := IntWalk.i64_in _ (by omega)
      by_cases q1 : y.1 ≤ t
      · by_cases q2 : t < y.1 + y.2
        · go_wp2
          go_quiet (fail)
          go_wp2
          go_ret
          exact ⟨ret_bool (HY.out (by simpa using ⟨q1, q2⟩)).symm, by (repeat (first | with_reducible exact Below.refl _ _ | assumption | with_reducible refine below_drewN ?_ _ | with_reducible refine Below.drew ?_ | with_reducible refine balloc ?_ _ | (with_reducible refine Below.setCell ?_ ?_ _; rotate_left; focus (first | (simp; done) | (simp; omega) | omega))))⟩
        · have d2 : decide (t < y.1 + y.2) = false := by simpa using q2
          go_wp2
          go_quiet (fail)
          go_wp2
          go_roundg (gk - 1)
          case rel => exact ⟨k + 1, by have := HK.out; omega, by go_num, by (repeat (first | with_reducible exact Below.refl _ _ | assumption | with_reducible refine below_drewN ?_ _ | with_reducible refine Below.drew ?_ | with_reducible refine balloc ?_ _ | (with_reducible refine Below.setCell ?_ ?_ _; rotate_left; focus (first | (simp; done) | (simp; omega) | omega)))), Lib.hid (HN.out (by rw [decide_eq_false_iff_not]; omega))⟩
          case measure => have := HK.out; omega
      · have d1 : decide (y.1 ≤ t) = false := by simpa using q1
        go_wp2
        go_quiet (fail)
        go_wp2
        go_roundg (gk - 1)
        case rel => exact ⟨k + 1, by have := HK.out; omega, by go_num, by (repeat (first | with_reducible exact Below.refl _ _ | assumption | with_reducible refine below_drewN ?_ _ | with_reducible refine Below.drew ?_ | with_reducible refine balloc ?_ _ | (with_reducible refine Below.setCell ?_ ?_ _; rotate_left; focus (first | (simp; done) | (simp; omega) | omega)))), Lib.hid (HN.out (by rw [decide_eq_false_iff_not]; omega))⟩
        case measure => have := HK.out; omega
    · go_wp2
      go_ret
      exact ⟨ret_bool (any_no (takeAll_end (by omega) hall.out)).symm, hb⟩
end Go.Proofs.Ytjhigfhgchpjcaa
