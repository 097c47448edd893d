/-
  The walk of AlignWindows.
-/
import Derived.Test.YtbejkfeloffccaaAlignI
namespace Go.Proofs.Ytbejkfeloffccaa
open Go.RowKit
set_option linter.unusedVariables false

theorem win_len_le (l : List (Int × List Int)) (a m : Int) : (winSpec l a m).1.length ≤ 300 := by
  unfold winSpec
  repeat' split
  · simp
  · rename_i h; have := win_bd h; simp only [fullL_len]; omega
  · simp
theorem aln_len_le (l l' : List (Int × List Int)) (d a m : Int) : (alnSpec l l' d a m).1.1.length ≤ 300 ∧ (alnSpec l l' d a m).1.2.length ≤ 300 := by
  unfold alnSpec
  repeat' split
  · simp
  · simp
  · rename_i h
    simp only [Bool.and_eq_true] at h
    have := win_bd h.2
    simp only [fullL_len]; omega
  · simp
set_option maxRecDepth 100000 in
set_option maxHeartbeats 4000000 in
theorem alignWindows_walk (A : Option Addr) (c : Nat) (l : List (Int × List Int)) (B : Option Addr) (e : Nat) (l' : List (Int × List Int)) (d a m : Int) (w : World)
    (hx : RB w A l) (hlx : l.length ≤ 9223372036854775807) (hwx : ∀ x ∈ l, (Lit.int .i64 x.1).wf = true ∧ x.2.length ≤ 9223372036854775807 ∧ ∀ y ∈ x.2, (Lit.int .i64 y).wf = true)
    (hy : RB w B l') (hly : l'.length ≤ 9223372036854775807) (hwy : ∀ x ∈ l', (Lit.int .i64 x.1).wf = true ∧ x.2.length ≤ 9223372036854775807 ∧ ∀ y ∈ x.2, (Lit.int .i64 y).wf = true)
    (_ : -9223372036854775808 ≤ d ∧ d ≤ 9223372036854775807) (_ : -9223372036854775808 ≤ a ∧ a ≤ 9223372036854775807) (_ : -9223372036854775808 ≤ m ∧ m ≤ 9223372036854775807) :
    Calls Try.prog 4 #[.slice A l.length c, .slice B l'.length e, .int .i64 d, .int .i64 a, .int .i64 m] w fun e w' => e = .returned (.bool true) ∧ Below w.heap.size w w' := by
  clear hwx hwy
  by_cases h1 : greatB l = true
  · go_enter Try.func4, Try.ntmps4
    go_wp2_with fail
    refine (great_any _ _ _ _ hx hlx).mono ?_
    rintro _ _ ⟨rfl, rfl⟩
    go_wp2
    go_ret
    exact ⟨rfl, Below.refl _ _⟩
  have h1' : greatB l = false := by simpa using h1
  obtain ⟨k1, k2⟩ := great_no h1'
  clear h1
  by_cases h2 : greatB l' = true
  · go_enter Try.func4, Try.ntmps4
    go_wp2_with fail
    refine (great_any _ _ _ _ hx hlx).mono ?_
    rintro _ _ ⟨rfl, rfl⟩
    go_wp2_with fail
    refine (great_any _ _ _ _ hy hly).mono ?_
    rintro _ _ ⟨rfl, rfl⟩
    go_wp2
    go_ret
    exact ⟨rfl, Below.refl _ _⟩
  have h2' : greatB l' = false := by simpa using h2
  obtain ⟨j1, j2⟩ := great_no h2'
  clear h2
  have hal : ∀ b ∈ l, b.2.length ≤ 140737488355328 := fun b hb => by have := k1 b hb; omega
  have hal' : ∀ b ∈ l', b.2.length ≤ 140737488355328 := fun b hb => by have := j1 b hb; omega
  have HA := Lib.hid (And.intro hal hal')
  clear hal hal' k1 j1
  go_enter Try.func4, Try.ntmps4
  go_wp2_with fail
  refine (great_any _ _ _ _ hx hlx).mono ?_
  rintro _ _ ⟨rfl, rfl⟩
  go_wp2_with fail
  refine (great_any _ _ _ _ hy hly).mono ?_
  rintro _ _ ⟨rfl, rfl⟩
  go_wp2_with fail
  refine (alignWindow_any _ _ _ a m _ hx (by omega) HA.out.1).mono ?_
  rintro _ w1 ⟨A1, c1, rfl, ho1, hb1⟩
  have r1 := own_RI ho1
  clear ho1
  go_wp2_with fail
  refine (refWindow_any _ _ _ a m _ (hx.keep hb1) (by omega) HA.out.1).mono ?_
  rintro _ w2 ⟨A2, c2, rfl, ho2, hb2⟩
  have r2 := own_RI ho2
  have hB2 := bstep hb1 hb2
  replace r1 := r1.keep hb2
  clear ho2 hb1 hb2
  go_wp2_with fail
  refine (alignAlign_any _ _ _ _ _ _ d a m _ (hx.keep hB2) (hy.keep hB2) (by omega) HA.out.1 (by omega) HA.out.2).mono ?_
  rintro _ w3 ⟨A3, c3, A4, c4, rfl, r3, r4, hb3⟩
  have hB3 := bstep hB2 hb3
  replace r1 := r1.keep hb3
  replace r2 := r2.keep hb3
  clear hB2 hb3
  go_wp2_with fail
  refine (refAlign_any _ _ _ _ _ _ d a m _ (hx.keep hB3) (hy.keep hB3) (by omega) HA.out.1 (by omega) HA.out.2).mono ?_
  rintro _ w4 ⟨A5, c5, A6, c6, rfl, r5, r6, hb4⟩
  have hB4 := bstep hB3 hb4
  replace r1 := r1.keep hb4
  replace r2 := r2.keep hb4
  replace r3 := r3.keep hb4
  replace r4 := r4.keep hb4
  clear hB3 hb4
  have q1 := win_len_le l a m
  have q2 := aln_len_le l l' d a m
  go_wp2_with fail
  refine (same13_any _ _ _ _ _ _ _ r1 r2 (by omega) (by omega)).mono ?_
  rintro _ w5 ⟨rfl, q5, rfl⟩
  go_wp2_with fail
  refine (same13_any _ _ _ _ _ _ _ (r3.keep (below_drewN (Below.refl _ _) _)) (r5.keep (below_drewN (Below.refl _ _) _)) (by omega) (by omega)).mono ?_
  rintro _ w6 ⟨rfl, q6, rfl⟩
  go_wp2_with fail
  refine (same13_any _ _ _ _ _ _ _ (r4.keep (below_drewN (Below.refl _ _) _)) (r6.keep (below_drewN (Below.refl _ _) _)) (by omega) (by omega)).mono ?_
  rintro _ w7 ⟨rfl, q7, rfl⟩
  go_wp2
  go_ret
  exact ⟨by simp, by first | exact below_drewN hB4 _ | exact below_drewN (below_drewN hB4 _) _⟩
end Go.Proofs.Ytbejkfeloffccaa
