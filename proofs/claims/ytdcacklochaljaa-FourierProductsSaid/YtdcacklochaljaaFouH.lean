/-
  FourierTransforms.
-/
import Derived.Test.YtdcacklochaljaaFouG
import Derived.Test.YtdcacklochaljaaClone
namespace Go.Proofs.Ytdcacklochaljaa
open Go.RowKit Num
set_option linter.unusedVariables false

theorem great11_any (A : Option Addr) (n c : Nat) (w : World) (hn : n ≤ 9223372036854775807) :
    Calls Try.prog 10 #[.slice A n c] w fun e w' => e = .returned (.bool (decide (70 < n))) ∧ w = w' := by
  go_enter Try.func10, Try.ntmps10
  go_wp2
  go_ret
  exact ⟨ret_bool (by rw [Bool.eq_iff_iff, decide_eq_true_eq, decide_eq_true_eq]; omega), rfl⟩
theorem fwdS_len (p : Int) (l : List Int) : (fwdS p l).1.length ≤ l.length := by
  unfold fwdS; split
  · rw [fwdL_len]; exact Nat.le_refl _
  · exact Nat.zero_le _
theorem bkS_len (p : Int) (l : List Int) : (bkS p l).1.length ≤ l.length := by
  unfold bkS; split
  · show (bkL _ l).length ≤ _; unfold bkL; rw [fullL_len]; exact Nat.le_refl _
  · exact Nat.zero_le _
theorem cvS_len (p : Int) (a b : List Int) : (cvS p a b).1.length ≤ a.length := by
  unfold cvS; split
  · split
    · split
      · show (cvI _ a b a.length).length ≤ _; rw [cvI_len]; exact Nat.le_refl _
      · exact Nat.zero_le _
    · exact Nat.zero_le _
  · exact Nat.zero_le _

set_option maxRecDepth 20000 in
set_option maxHeartbeats 2000000 in
theorem fourierTransforms_walk (p : Int) (A : Option Addr) (c : Nat) (a : List Int) (B : Option Addr) (d : Nat) (b : List Int) (w : World)
    (hp : -9223372036854775808 ≤ p ∧ p ≤ 9223372036854775807)
    (hx : RI .i64 w A a) (hlx : a.length ≤ 9223372036854775807) (_ : ∀ x ∈ a, (Lit.int .i64 x).wf = true)
    (hy : RI .i64 w B b) (hly : b.length ≤ 9223372036854775807) (_ : ∀ x ∈ b, (Lit.int .i64 x).wf = true) :
    Calls Try.prog 4 #[.int .i64 p, .slice A a.length c, .slice B b.length d] w fun e w' => e = .returned (.bool true) ∧ Below w.heap.size w w' := by
  by_cases h1 : a.length ≤ 70
  · have d1 : decide (70 < a.length) = false := decide_eq_false (by omega)
    by_cases h2 : b.length ≤ 70
    · have d2 : decide (70 < b.length) = false := decide_eq_false (by omega)
      obtain ⟨i0, hi0, hz0, hz1, hz2⟩ := info_int64
      have k1 := fwdS_len p a
      have k2 := bkS_len p a
      have k3 := cvS_len p a b
      go_enter Try.func4, Try.ntmps4
      go_wp2_with fail
      refine (great11_any _ _ _ _ hlx).mono ?_
      rintro _ _ ⟨rfl, rfl⟩
      go_wp2_with fail
      refine (great11_any _ _ _ _ hly).mono ?_
      rintro _ _ ⟨rfl, rfl⟩
      go_wp2_with (at_builtin; refine wpList_clone_RI w rfl _ _ 22 rfl 2 8 Try.underlying22 hi0 hz0 hz1 hz2 rfl .i64 w.heap.size rfl rfl A c a rfl hx (by unfold maxLen; omega) (by omega) ?_; intro A0 c0 w0 hc0 rO hB0)
      refine (fwd_any p A c a w0 (hx.keep hB0) hlx hp.1 hp.2).mono ?_
      rintro e w1 ⟨A1, c1, rfl, r1, hb1⟩
      have hB1 := bstep hB0 hb1
      replace rO := rO.keep hb1
      clear hB0 hb1
      go_wp2_with fail
      refine (refFwd_any p A c a w1 (hx.keep hB1) hlx hp.1 hp.2).mono ?_
      rintro _ w2 ⟨A2, c2, rfl, r2, hb2⟩
      have hB2 := bstep hB1 hb2
      replace rO := rO.keep hb2
      replace r1 := r1.keep hb2
      clear hB1 hb2
      go_wp2_with fail
      refine (back_any p A c a w2 (hx.keep hB2) hlx hp.1 hp.2).mono ?_
      rintro _ w3 ⟨A3, c3, rfl, r3, hb3⟩
      have hB3 := bstep hB2 hb3
      replace rO := rO.keep hb3
      replace r1 := r1.keep hb3
      replace r2 := r2.keep hb3
      clear hB2 hb3
      go_wp2_with fail
      refine (refBack_any p A c a w3 (hx.keep hB3) hlx hp.1 hp.2).mono ?_
      rintro _ w4 ⟨A4, c4, rfl, r4, hb4⟩
      have hB4 := bstep hB3 hb4
      replace rO := rO.keep hb4
      replace r1 := r1.keep hb4
      replace r2 := r2.keep hb4
      replace r3 := r3.keep hb4
      clear hB3 hb4
      go_wp2_with fail
      refine (conv_any p A B c d a b w4 (hx.keep hB4) (hy.keep hB4) hlx hly hp.1 hp.2).mono ?_
      rintro _ w5 ⟨A5, c5, rfl, r5, hb5⟩
      have hB5 := bstep hB4 hb5
      replace rO := rO.keep hb5
      replace r1 := r1.keep hb5
      replace r2 := r2.keep hb5
      replace r3 := r3.keep hb5
      replace r4 := r4.keep hb5
      clear hB4 hb5
      go_wp2_with fail
      refine (refConv_any p A B c d a b w5 (hx.keep hB5) (hy.keep hB5) hlx hly hp.1 hp.2).mono ?_
      rintro _ w6 ⟨A6, c6, rfl, r6, hb6⟩
      have hB6 := bstep hB5 hb6
      replace rO := rO.keep hb6
      replace r1 := r1.keep hb6
      replace r2 := r2.keep hb6
      replace r3 := r3.keep hb6
      replace r4 := r4.keep hb6
      replace r5 := r5.keep hb6
      clear hB5 hb6
      go_wp2_with fail
      refine (chkF_any p A c a w6 (hx.keep hB6) hlx hp.1 hp.2).mono ?_
      rintro _ w7 ⟨rfl, hb7⟩
      have hB7 := bstep hB6 hb7
      replace rO := rO.keep hb7
      replace r1 := r1.keep hb7
      replace r2 := r2.keep hb7
      replace r3 := r3.keep hb7
      replace r4 := r4.keep hb7
      replace r5 := r5.keep hb7
      replace r6 := r6.keep hb7
      clear hB6 hb7
      go_wp2_with fail
      refine (refChk_any p A c a w7 (hx.keep hB7) hlx hp.1 hp.2).mono ?_
      rintro _ w8 ⟨rfl, hb8⟩
      have hB8 := bstep hB7 hb8
      replace rO := rO.keep hb8
      replace r1 := r1.keep hb8
      replace r2 := r2.keep hb8
      replace r3 := r3.keep hb8
      replace r4 := r4.keep hb8
      replace r5 := r5.keep hb8
      replace r6 := r6.keep hb8
      clear hB7 hb8
      have rX := hx.keep hB8
      go_wp2_with fail
      refine (same10_any _ _ _ _ _ _ _ r1 r2 (by omega) (by omega)).mono ?_
      rintro _ w9 ⟨rfl, q9, rfl⟩
      go_wp2_with fail
      refine (same10_any _ _ _ _ _ _ _ (r3.keep (below_drewN (Below.refl _ _) _)) (r4.keep (below_drewN (Below.refl _ _) _)) (by omega) (by omega)).mono ?_
      rintro _ w10 ⟨rfl, q10, rfl⟩
      go_wp2_with fail
      refine (same10_any _ _ _ _ _ _ _ (r5.keep (below_drewN (Below.refl _ _) _)) (r6.keep (below_drewN (Below.refl _ _) _)) (by omega) (by omega)).mono ?_
      rintro _ w11 ⟨rfl, q11, rfl⟩
      go_wp2_with fail
      refine (same10_any _ _ _ _ _ _ _ (rX.keep (below_drewN (Below.refl _ _) _)) (rO.keep (below_drewN (Below.refl _ _) _)) (by omega) (by omega)).mono ?_
      rintro _ w12 ⟨rfl, q12, rfl⟩
      go_wp2
      go_ret
      exact ⟨by simp, by first | exact below_drewN hB8 _ | exact below_drewN (below_drewN hB8 _) _ | exact below_drewN (below_drewN (below_drewN (below_drewN hB8 _) _) _) _⟩
    · have d2 : decide (70 < b.length) = true := decide_eq_true (by omega)
      go_enter Try.func4, Try.ntmps4
      go_wp2_with fail
      refine (great11_any _ _ _ _ hlx).mono ?_
      rintro _ _ ⟨rfl, rfl⟩
      go_wp2_with fail
      refine (great11_any _ _ _ _ hly).mono ?_
      rintro _ _ ⟨rfl, rfl⟩
      go_wp2
      go_ret
      exact ⟨rfl, Below.refl _ _⟩
  · have d1 : decide (70 < a.length) = true := decide_eq_true (by omega)
    go_enter Try.func4, Try.ntmps4
    go_wp2_with fail
    refine (great11_any _ _ _ _ hlx).mono ?_
    rintro _ _ ⟨rfl, rfl⟩
    go_wp2
    go_ret
    exact ⟨rfl, Below.refl _ _⟩
end Go.Proofs.Ytdcacklochaljaa
