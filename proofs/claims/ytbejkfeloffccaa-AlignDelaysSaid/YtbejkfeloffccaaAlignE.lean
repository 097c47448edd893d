/-
  The walk of AlignDelays.
-/
import Derived.Test.YtbejkfeloffccaaAlignD
import Derived.Test.YtbejkfeloffccaaAppend
namespace Go.Proofs.Ytbejkfeloffccaa
open Go.RowKit
set_option linter.unusedVariables false

theorem delay_len_le (xs : List Int) (d : Int) (h : xs.length ≤ 300) : (delaySpec xs d).1.length ≤ 600 := by
  unfold delaySpec
  repeat' split
  all_goals simp [delayed]
  omega
theorem gaps_len_le (xs : List Int) (h : xs.length ≤ 300) : (gapsSpec xs).1.length ≤ 600 := by
  unfold gapsSpec
  split
  · simp
  · have := gapsTo_len xs xs.length
    simp only []
    omega

set_option maxRecDepth 100000 in
set_option maxHeartbeats 4000000 in
theorem alignDelays_walk (A : Option Addr) (c : Nat) (xs : List Int) (d : Int) (w : World)
    (hx : RI .i64 w A xs) (hlx : xs.length ≤ 9223372036854775807) (_ : ∀ x ∈ xs, (Lit.int .i64 x).wf = true) (_ : -9223372036854775808 ≤ d ∧ d ≤ 9223372036854775807) :
    Calls Try.prog 3 #[.slice A xs.length c, .int .i64 d] w fun e w' => e = .returned (.bool true) ∧ Below w.heap.size w w' := by
  rcases (Decidable.em (xs.length ≤ 300)).symm with h1 | h1
  · have d1 : decide (300 < xs.length) = true := by simp; omega
    go_enter Try.func3, Try.ntmps3
    go_wp2_with (go_at_call 10; refine (long13_any _ _ _ _).mono ?_; rintro e w' ⟨rfl, rfl⟩)
    go_ret
    exact ⟨rfl, Below.refl _ _⟩
  have d1 : decide (300 < xs.length) = false := by simp; omega
  have hla : xs.length ≤ 140737488355328 := by omega
  obtain ⟨i0, hi0, hz0, hz1, hz2⟩ := info_parts info_int
  go_enter Try.func3, Try.ntmps3
  go_wp2_with (first
    | (go_at_call 10; refine (long13_any _ _ _ _).mono ?_; rintro e w' ⟨rfl, rfl⟩)
    | (at_builtin; refine wpList_append_RI _ rfl _ _ 22 rfl w.heap.size 3 i0 _ 8 Try.underlying22 hi0 hz0 hz1 hz2 rfl .i64 _ 0 [] rfl (own_empty 3 (Nat.le_refl _)) A c xs rfl (hx.keep (balloc (Below.refl _ _) _)) (by unfold maxLen; omega) (by omega) (by simp) ?_; intro v1 w1 hown1 hgrow1; simp only [Nat.zero_add, List.nil_append] at hown1; have hB1 : Below w.heap.size w w1 := own_below (balloc (Below.refl _ _) (.cells #[] 3)) (own_empty 3 (Nat.le_refl _)) hgrow1 (Nat.le_refl _) (by simp)))
  obtain ⟨A1, c1, rfl, hc1⟩ := own_shape' hown1
  have rO := own_RI hown1
  clear hown1 hgrow1
  refine (alignDelay_any _ _ _ _ _ rO hla).mono ?_
  rintro e w2 ⟨A2, c2, rfl, ho2, hb2⟩
  have r2 := own_RI ho2
  have hB2 := bstep hB1 hb2
  replace rO := rO.keep hb2
  clear hb2 hB1 ho2
  go_wp2_with fail
  refine (refDelay_any _ _ _ _ _ (hx.keep hB2) hla).mono ?_
  rintro e w3 ⟨A3, c3, rfl, ho3, hb3⟩
  have r3 := own_RI ho3
  have hB3 := bstep hB2 hb3
  replace rO := rO.keep hb3
  replace r2 := r2.keep hb3
  clear hb3 hB2 ho3
  go_wp2_with fail
  refine (alignGaps_any _ _ _ _ rO hla).mono ?_
  rintro e w4 ⟨A4, c4, rfl, ho4, hb4⟩
  have r4 := own_RL ho4
  have hB4 := bstep hB3 hb4
  replace rO := rO.keep hb4
  replace r2 := r2.keep hb4
  replace r3 := r3.keep hb4
  clear hb4 hB3 ho4
  go_wp2_with fail
  refine (refGaps_any _ _ _ _ (hx.keep hB4) hla).mono ?_
  rintro e w5 ⟨A5, c5, rfl, ho5, hb5⟩
  have r5 := own_RL ho5
  have hB5 := bstep hB4 hb5
  replace rO := rO.keep hb5
  replace r2 := r2.keep hb5
  replace r3 := r3.keep hb5
  replace r4 := r4.keep hb5
  clear hb5 hB4 ho5
  have q1 := delay_len_le xs d h1
  have q2 := gaps_len_le xs h1
  go_wp2_with fail
  refine (same13_any _ _ _ _ _ _ _ r2 r3 (by omega) (by omega)).mono ?_
  rintro e w6 ⟨rfl, q6, rfl⟩
  go_wp2_with fail
  refine (sameGaps_any _ _ _ _ _ _ _ (r4.keep (below_drewN (Below.refl _ _) _)) (r5.keep (below_drewN (Below.refl _ _) _)) (by omega) (by omega)).mono ?_
  rintro e w7 ⟨rfl, q7, rfl⟩
  go_wp2_with fail
  refine (same13_any _ _ _ _ _ _ _ (rO.keep (below_drewN (Below.refl _ _) _)) (hx.keep (below_drewN hB5 _)) (by omega) (by omega)).mono ?_
  rintro e w8 ⟨rfl, q8, rfl⟩
  go_wp2
  go_ret
  exact ⟨by simp, by first | exact below_drewN hB5 _ | exact below_drewN (below_drewN hB5 _) _⟩
end Go.Proofs.Ytbejkfeloffccaa
