/-
  Contract: fringeref10.Same.
-/
import Derived.Test.YtnhjeelcgfobnaaPRingG
namespace Go.Proofs.Ytnhjeelcgfobnaa
open Go.RowKit Num
set_option maxRecDepth 8000
set_option linter.unusedVariables false

theorem list_ne_of_getD {xs ys : List Int} {k : Nat} (h : xs.getD k 0 ≠ ys.getD k 0) : decide (xs = ys) = false := by
  simp only [decide_eq_false_iff_not]
  intro e
  exact h (by rw [e])
theorem list_eq_of_getD {xs ys : List Int} (hl : xs.length = ys.length) (h : ∀ j, j < xs.length → xs.getD j 0 = ys.getD j 0) : xs = ys := by
  apply List.ext_getElem hl
  intro j h1 h2
  have := h j h1
  simpa [List.getD_eq_getElem?_getD, List.getElem?_eq_getElem h1, List.getElem?_eq_getElem h2] using this
theorem all_lt_succ {p : Nat → Prop} {k : Nat} (h : ∀ j, j < k → p j) (hk : p k) : ∀ j, j < k + 1 → p j := by
  intro j hj
  rcases Nat.lt_or_ge j k with h1 | h1
  · exact h j h1
  · obtain rfl : j = k := by omega
    exact hk
theorem same10_any (A B : Option Addr) (c d : Nat) (xs ys : List Int) (w : World) (hx : RI .i64 w A xs) (hy : RI .i64 w B ys) (hl : xs.length ≤ 140737488355328) (hl2 : ys.length ≤ 140737488355328) :
    Calls Try.prog 18 #[.slice A xs.length c, .slice B ys.length d] w fun e w' => e = .returned (.bool (decide (xs = ys))) ∧ ∃ n, w' = w.drewN n := by
  by_cases hlen : xs.length = ys.length
  · have h2 : ((xs.length : Int) != ys.length) = false := by simp; omega
    have hle : xs.length ≤ ys.length := by omega
    have HL := Lib.hid hlen
    clear hlen
    go_enter Try.func18, Try.ntmps18
    go_wp2
    go_loopw [5] (fun i wr => ∃ k n : Nat, k ≤ xs.length ∧ i = .int .i64 k ∧ wr = w.drewN n ∧ Hid (∀ j, j < k → xs.getD j 0 = ys.getD j 0)) (fun i _ => xs.length - (intOf i).toNat)
    case atStart => exact ⟨0, 0, Nat.zero_le _, rfl, rfl, Lib.hid (by simp)⟩
    case round =>
      obtain ⟨k, n, hk, rfl, rfl, hall⟩ := hrel
      by_cases hlt : k < xs.length
      · obtain ⟨b, off, rfl, hc⟩ := hx.at_ hlt
        have hlt2 := Nat.lt_of_lt_of_le hlt hle
        obtain ⟨b2, off2, rfl, hc2⟩ := hy.at_ hlt2
        go_wp2
        go_quiet (fail)
        go_wp2
        · have hv : (xs[k] != ys[k]) = true := by assumption
          go_ret
          refine ⟨ret_bool (list_ne_of_getD (k := k) ?_).symm, n + nq, by first | rfl | rw [World.drewN_drewN]⟩
          simpa [List.getD_eq_getElem?_getD, hlt, hlt2] using hv
        · have hv : (xs[k] != ys[k]) = false := by assumption
          go_roundw
          case rel => exact ⟨k + 1, _, by omega, by go_num, rfl, Lib.hid (all_lt_succ hall.out (by simpa [List.getD_eq_getElem?_getD, hlt, hlt2] using hv))⟩
          case measure => simp [intOf]; omega
      · go_wp2
        go_ret
        refine ⟨ret_bool ?_, _, rfl⟩
        symm
        rw [decide_eq_true_eq]
        exact list_eq_of_getD HL.out (fun j hj => hall.out j (by omega))
  · have h2 : ((xs.length : Int) != ys.length) = true := by simp; omega
    go_enter Try.func18, Try.ntmps18
    go_wp2
    go_ret
    exact ⟨ret_bool (by symm; simp; intro h; exact hlen (by rw [h])), 0, rfl⟩

end Go.Proofs.Ytnhjeelcgfobnaa
