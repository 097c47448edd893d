/-
  The walk of LagOf.
-/
import Derived.Test.YtfmhliiljmcejaaLagZ
namespace Go.Proofs.Ytfmhliiljmcejaa
open Go.RowKit
set_option linter.unusedVariables false

theorem own_shape' {w : World} {base : Nat} {e : TypeId} {size : Nat} {v : Value} {n : Nat} {xs : List Value} (h : w.ownsRow base e size v n xs) : ∃ A c, v = .slice A n c ∧ n ≤ c := by
  rcases h.2 with ⟨rfl, rfl⟩ | ⟨g, cap, _, rfl, _, _, h1, _⟩
  · exact ⟨_, _, rfl, Nat.le_refl _⟩
  · exact ⟨_, _, rfl, h1⟩
theorem own_empty {w : World} {base : Nat} (e : TypeId) (h : base ≤ w.heap.size) : (w.alloc (.cells #[] e)).ownsRow base e 1 (.slice (some ⟨w.heap.size, 0, none⟩) 0 0) 0 (([] : List Int).flatMap (encI .i64)) := by
  have := own_blk (size := 1) (n := 0) (Blk.new w e #[]) h (by simp) (by unfold maxLen; omega)
  simpa using this
theorem cut_len_le (xs : List Int) (a : Int) (h : xs.length ≤ 300) : (cutSpec xs a).1.length ≤ 600 ∧ (cutSpec xs a).2.1.length ≤ 600 := by
  unfold cutSpec
  split
  · simp
  · split
    · simp
    · simp [cutA, cutB]; omega
theorem of_len_le (xs ys : List Int) (m : Int) : (ofSpec xs ys m).1.length ≤ 600 := by
  unfold ofSpec
  repeat' split
  all_goals simp
  rw [lagCells_len]; omega

set_option maxRecDepth 100000 in
set_option maxHeartbeats 4000000 in
theorem lagOf_walk (A : Option Addr) (c : Nat) (xs : List Int) (B : Option Addr) (d : Nat) (ys : List Int) (most at_ : Int) (w : World)
    (hx : RI .i64 w A xs) (hlx : xs.length ≤ 9223372036854775807) (_ : ∀ x ∈ xs, (Lit.int .i64 x).wf = true) (hy : RI .i64 w B ys) (hly : ys.length ≤ 9223372036854775807) (_ : ∀ x ∈ ys, (Lit.int .i64 x).wf = true) (_ : -9223372036854775808 ≤ most ∧ most ≤ 9223372036854775807) (_ : -9223372036854775808 ≤ at_ ∧ at_ ≤ 9223372036854775807) :
    Calls Try.prog 3 #[.slice A xs.length c, .slice B ys.length d, .int .i64 most, .int .i64 at_] w fun e w' => e = .returned (.bool true) ∧ Below w.heap.size w w' := by
  rcases (Decidable.em (xs.length ≤ 300)).symm with h1 | h1
  · have d1 : decide (300 < xs.length) = true := by simp; omega
    go_enter Try.func3, Try.ntmps3
    go_wp2_with (go_at_call 10; refine (long13_any _ _ _ _).mono ?_; rintro e w' ⟨rfl, rfl⟩)
    go_ret
    exact ⟨rfl, Below.refl _ _⟩
  have d1 : decide (300 < xs.length) = false := by simp; omega
  rcases (Decidable.em (ys.length ≤ 300)).symm with h2 | h2
  · have d2 : decide (300 < ys.length) = true := by simp; omega
    go_enter Try.func3, Try.ntmps3
    go_wp2_with (go_at_call 10; refine (long13_any _ _ _ _).mono ?_; rintro e w' ⟨rfl, rfl⟩)
    go_ret
    exact ⟨rfl, Below.refl _ _⟩
  have d2 : decide (300 < ys.length) = false := by simp; omega
  have hla : xs.length ≤ 140737488355328 := by omega
  have hlb : ys.length ≤ 140737488355328 := by omega
  obtain ⟨i0, hi0, hz0, hz1, hz2⟩ := info_parts info_int
  go_enter Try.func3, Try.ntmps3
  go_wp2_with (first
    | (go_at_call 10; refine (long13_any _ _ _ _).mono ?_; rintro e w' ⟨rfl, rfl⟩)
    | (at_builtin; refine wpList_append_RI _ rfl (.tmp 27) (.tmp 28) 22 rfl w.heap.size 3 i0 _ 8 Try.underlying22 hi0 hz0 hz1 hz2 rfl .i64 _ 0 [] rfl (own_empty 3 (Nat.le_refl _)) A c xs rfl (hx.keep (balloc (Below.refl _ _) _)) (by unfold maxLen; omega) (by omega) (by simp) ?_; intro v1 w1 hown1 hgrow1; simp only [Nat.zero_add, List.nil_append] at hown1; have hB1 : Below w.heap.size w w1 := own_below (balloc (Below.refl _ _) (.cells #[] 3)) (own_empty 3 (Nat.le_refl _)) hgrow1 (Nat.le_refl _) (by simp))
    | (at_builtin; refine wpList_append_RI _ rfl (.tmp 30) (.tmp 31) 22 rfl w.heap.size 3 i0 _ 8 Try.underlying22 hi0 hz0 hz1 hz2 rfl .i64 _ 0 [] rfl (own_empty 3 hB1.size) B d ys rfl (hy.keep (balloc hB1 _)) (by unfold maxLen; omega) (by omega) (by simp; have := hB1.size; omega) ?_; intro v2 w2 hown2 hgrow2; simp only [Nat.zero_add, List.nil_append] at hown2))
  have hB2 : Below w.heap.size w w2 := own_below (balloc hB1 (.cells #[] 3)) (own_empty 3 hB1.size) hgrow2 (Nat.le_refl _) (by simp; have := hB1.size; omega)
  replace hown1 := (hown1.alloc (.cells #[] 3)).kept hgrow2 (.inr (fun h => absurd (hown1.lt _ h).2 (Nat.lt_irrefl _)))
  obtain ⟨A1, c1, rfl, hc1⟩ := own_shape' hown1
  obtain ⟨A2, c2, rfl, hc2⟩ := own_shape' hown2
  have rO := own_RI hown1
  have rP := own_RI hown2
  clear hown1 hown2 hgrow1 hgrow2 hB1
  refine (lagOf_any _ _ _ _ _ _ _ _ rO rP hla hlb).mono ?_
  rintro e w3 ⟨A3, c3, rfl, ho3, hb3⟩
  have hL3 := own_RL ho3
  have hB3 := bstep hB2 hb3
  replace rO := rO.keep hb3
  replace rP := rP.keep hb3
  clear hb3 hB2 ho3
  go_wp2_with fail
  refine (refOf_any _ _ _ _ _ _ _ _ (hx.keep hB3) (hy.keep hB3) hla hlb).mono ?_
  rintro e w4 ⟨A4, c4, rfl, ho4, hb4⟩
  have hL4 := own_RL ho4
  have hB4 := bstep hB3 hb4
  replace rO := rO.keep hb4
  replace rP := rP.keep hb4
  replace hL3 := hL3.keep hb4
  clear hb4 hB3 ho4
  go_wp2_with fail
  refine (lagCut_any _ _ _ _ _ rO hla hc1).mono ?_
  rintro e w5 ⟨A5, c5, A5', c5', rfl, r5, r5', hb5⟩
  have hB5 := bstep hB4 hb5
  replace rO := rO.keep hb5
  replace rP := rP.keep hb5
  replace hL3 := hL3.keep hb5
  replace hL4 := hL4.keep hb5
  clear hb5 hB4
  go_wp2_with fail
  refine (refCut_any _ _ _ _ _ (hx.keep hB5) hla).mono ?_
  rintro e w6 ⟨A6, c6, A6', c6', rfl, r6, r6', hb6⟩
  have hB6 := bstep hB5 hb6
  replace rO := rO.keep hb6
  replace rP := rP.keep hb6
  replace hL3 := hL3.keep hb6
  replace hL4 := hL4.keep hb6
  replace r5 := r5.keep hb6
  replace r5' := r5'.keep hb6
  clear hb6 hB5
  have q1 := of_len_le xs ys most
  have q2 := cut_len_le xs at_ h1
  go_wp2_with fail
  refine (same16_any _ _ _ _ _ _ _ hL3 hL4 (by omega) (by omega)).mono ?_
  rintro e w7 ⟨rfl, q7, rfl⟩
  go_wp2_with fail
  refine (same13_any _ _ _ _ _ _ _ (r5.keep (below_drewN (Below.refl _ _) _)) (r6.keep (below_drewN (Below.refl _ _) _)) (by omega) (by omega)).mono ?_
  rintro e w8 ⟨rfl, q8, rfl⟩
  go_wp2_with fail
  refine (same13_any _ _ _ _ _ _ _ (r5'.keep (below_drewN (Below.refl _ _) _)) (r6'.keep (below_drewN (Below.refl _ _) _)) (by omega) (by omega)).mono ?_
  rintro e w9 ⟨rfl, q9, rfl⟩
  go_wp2_with fail
  refine (same13_any _ _ _ _ _ _ _ (rO.keep (below_drewN (Below.refl _ _) _)) (hx.keep (below_drewN hB6 _)) (by omega) (by omega)).mono ?_
  rintro e w10 ⟨rfl, q10, rfl⟩
  go_wp2_with fail
  refine (same13_any _ _ _ _ _ _ _ (rP.keep (below_drewN (Below.refl _ _) _)) (hy.keep (below_drewN hB6 _)) (by omega) (by omega)).mono ?_
  rintro e w11 ⟨rfl, q11, rfl⟩
  go_wp2
  go_ret
  exact ⟨by simp, by first | exact below_drewN hB6 _ | exact below_drewN (below_drewN hB6 _) _⟩
end Go.Proofs.Ytfmhliiljmcejaa
