/-
  Contract: fringeref10.Same. RingFinds.
-/
import Derived.Test.YtnngkghmhbcgeaaRingI
namespace Go.Proofs.Ytnngkghmhbcgeaa
open Go.RowKit Num
set_option linter.unusedVariables false

theorem list_ne_of_getD {xs ys : List Int} {k : Nat} (h : xs.getD k 0 ≠ ys.getD k 0) : decide (xs = ys) = false := by
  simp only [decide_eq_false_iff_not]
  intro e
  exact h (by rw [e])
theorem list_eq_of_getD {xs ys : List Int} (hl : xs.length = ys.length) (h : ∀ j, j < xs.length → xs.getD j 0 = ys.getD j 0) : xs = ys := by
  apply List.ext_getElem hl
  intro j h1 h2
  have := h j h1
  simpa [List.getD_eq_getElem?_getD, List.getElem?_eq_getElem h1, List.getElem?_eq_getElem h2] using this
theorem all_lt_succ {p : Nat → Prop} {k : Nat} (h : ∀ j, j < k → p j) (hk : p k) : ∀ j, j < k + 1 → p j := by
  intro j hj
  rcases Nat.lt_or_ge j k with h1 | h1
  · exact h j h1
  · obtain rfl : j = k := by omega
    exact hk
theorem same10_any (A B : Option Addr) (c d : Nat) (xs ys : List Int) (w : World) (hx : RI .i64 w A xs) (hy : RI .i64 w B ys) (hl : xs.length ≤ 140737488355328) (hl2 : ys.length ≤ 140737488355328) :
    Calls Try.prog 24 #[.slice A xs.length c, .slice B ys.length d] w fun e w' => e = .returned (.bool (decide (xs = ys))) ∧ ∃ n, w' = w.drewN n := by
  by_cases hlen : xs.length = ys.length
  · have h2 : ((xs.length : Int) != ys.length) = false := by simp; omega
    have hle : xs.length ≤ ys.length := by omega
    have HL := Lib.hid hlen
    clear hlen
    go_enter Try.func24, Try.ntmps24
    go_wp2
    go_loopw [5] (fun i wr => ∃ k n : Nat, k ≤ xs.length ∧ i = .int .i64 k ∧ wr = w.drewN n ∧ Hid (∀ j, j < k → xs.getD j 0 = ys.getD j 0)) (fun i _ => xs.length - (intOf i).toNat)
    case atStart => exact ⟨0, 0, Nat.zero_le _, rfl, rfl, Lib.hid (by simp)⟩
    case round =>
      obtain ⟨k, n, hk, rfl, rfl, hall⟩ := hrel
      by_cases hlt : k < xs.length
      · obtain ⟨b, off, rfl, hc⟩ := hx.at_ hlt
        have hlt2 := Nat.lt_of_lt_of_le hlt hle
        obtain ⟨b2, off2, rfl, hc2⟩ := hy.at_ hlt2
        go_wp2
        go_quiet (fail)
        go_wp2
        · have hv : (xs[k] != ys[k]) = true := by assumption
          go_ret
          refine ⟨ret_bool (list_ne_of_getD (k := k) ?_).symm, n + nq, by first | rfl | rw [World.drewN_drewN]⟩
          simpa [List.getD_eq_getElem?_getD, hlt, hlt2] using hv
        · have hv : (xs[k] != ys[k]) = false := by assumption
          go_roundw
          case rel => exact ⟨k + 1, _, by omega, by go_num, rfl, Lib.hid (all_lt_succ hall.out (by simpa [List.getD_eq_getElem?_getD, hlt, hlt2] using hv))⟩
          case measure => simp [intOf]; omega
      · go_wp2
        go_ret
        refine ⟨ret_bool ?_, _, rfl⟩
        symm
        rw [decide_eq_true_eq]
        exact list_eq_of_getD HL.out (fun j hj => hall.out j (by omega))
  · have h2 : ((xs.length : Int) != ys.length) = true := by simp; omega
    go_enter Try.func24, Try.ntmps24
    go_wp2
    go_ret
    exact ⟨ret_bool (by symm; simp; intro h; exact hlen (by rw [h])), 0, rfl⟩

theorem facS_len {n : Int} : (facS n).1.length ≤ 140737488355328 := by
  unfold facS
  by_cases h : 1 ≤ n ∧ n ≤ 2000000000
  · rw [if_pos h, toI_len]
    have := fac_len (n := n.toNat) (by omega) (by omega)
    omega
  · rw [if_neg h]; decide

theorem ringFinds_walk (p a n : Int) (w : World) (hp : -9223372036854775808 ≤ p ∧ p ≤ 9223372036854775807) (ha : -9223372036854775808 ≤ a ∧ a ≤ 9223372036854775807) (hn : -9223372036854775808 ≤ n ∧ n ≤ 9223372036854775807) :
    Calls Try.prog 4 #[.int .i64 p, .int .i64 a, .int .i64 n] w fun e w' => e = .returned (.bool true) ∧ Below w.heap.size w w' := by
  have hfl := facS_len (n := n)
  go_enter Try.func4, Try.ntmps4
  go_wp2_with fail
  refine (ringFacs_any n _ hn.1 hn.2).mono ?_
  rintro _ w1 ⟨A1, c1, rfl, r1, hb1⟩
  go_wp2_with fail
  refine (refFacs_any n _ hn.1 hn.2).mono ?_
  rintro _ w2 ⟨A2, c2, rfl, r2, hb2⟩
  have hB2 := bstep hb1 hb2
  replace r1 := r1.keep hb2
  clear hb1 hb2
  go_wp2_with fail
  refine (ringOrder_any p a _ hp.1 hp.2).mono ?_
  rintro _ w3 ⟨rfl, hb3⟩
  have hB3 := bstep hB2 hb3
  replace r1 := r1.keep hb3
  replace r2 := r2.keep hb3
  clear hB2 hb3
  go_wp2_with fail
  refine (refOrder_any p a _ hp.1 hp.2).mono ?_
  rintro _ w4 ⟨rfl, hb4⟩
  have hB4 := bstep hB3 hb4
  replace r1 := r1.keep hb4
  replace r2 := r2.keep hb4
  clear hB3 hb4
  go_wp2_with fail
  refine (ringGen_any p _ hp.1 hp.2).mono ?_
  rintro _ w5 ⟨rfl, hb5⟩
  have hB5 := bstep hB4 hb5
  replace r1 := r1.keep hb5
  replace r2 := r2.keep hb5
  clear hB4 hb5
  go_wp2_with fail
  refine (refGen_any p _ hp.1 hp.2).mono ?_
  rintro _ w6 ⟨rfl, hb6⟩
  have hB6 := bstep hB5 hb6
  replace r1 := r1.keep hb6
  replace r2 := r2.keep hb6
  clear hB5 hb6
  go_wp2_with fail
  refine (ringRoot_any p n _ hp.1 hp.2 hn.2).mono ?_
  rintro _ w7 ⟨rfl, hb7⟩
  have hB7 := bstep hB6 hb7
  replace r1 := r1.keep hb7
  replace r2 := r2.keep hb7
  clear hB6 hb7
  go_wp2_with fail
  refine (refRoot_any p n _ hp.1 hp.2 hn.2).mono ?_
  rintro _ w8 ⟨rfl, hb8⟩
  have hB8 := bstep hB7 hb8
  replace r1 := r1.keep hb8
  replace r2 := r2.keep hb8
  clear hB7 hb8
  go_wp2_with fail
  refine (same10_any _ _ _ _ _ _ _ r1 r2 hfl hfl).mono ?_
  rintro _ w9 ⟨rfl, q9, rfl⟩
  go_wp2
  go_ret
  exact ⟨by simp, below_drewN hB8 _⟩
end Go.Proofs.Ytnngkghmhbcgeaa
