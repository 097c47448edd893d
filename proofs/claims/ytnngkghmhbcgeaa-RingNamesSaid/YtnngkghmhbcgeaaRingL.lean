/-
  RingNames. Printed by gen_ring.py.
-/
import Derived.Test.YtnngkghmhbcgeaaRingK
namespace Go.Proofs.Ytnngkghmhbcgeaa
open Go.RowKit Num
set_option linter.unusedVariables false
namespace Nm
theorem pow_fermat {P A N : Nat} (h : Pr P) (h2 : P ≤ 2000000000) (h3 : A < P) (hA : ¬ P ∣ A) (hN : N = P - 1) : powS (P : Int) (A : Int) (N : Int) = (1, 0) := pow_val (r := 1) h h2 h3 (by subst hN; exact fermat1 h hA)
theorem pr_2 : Pr 2 := pr_tr (F := 0) (by omega) (by decide) (by omega)
theorem pr_3 : Pr 3 := pr_tr (F := 0) (by omega) (by decide) (by omega)
theorem pr_5 : Pr 5 := pr_tr (F := 1) (by omega) (by decide) (by omega)
theorem pr_1000000007 : Pr 1000000007 := pr_tr (F := 31621) (by omega) (by decide +kernel) (by omega)
theorem pr_1999999973 : Pr 1999999973 := pr_tr (F := 44720) (by omega) (by decide +kernel) (by omega)
theorem facs_1 : facs 1 = [] := facs_eq ⟨by decide, by intro x hx; exact absurd hx List.not_mem_nil, by decide⟩
theorem facs_1999999973 : facs 1999999973 = [1999999973] := facs_eq ⟨by decide, by intro x hx; simp only [List.mem_cons, List.not_mem_nil, or_false] at hx; subst hx; exact pr_1999999973, by decide⟩
theorem gn_2 : genN 2 = 1 := gen_at pr_2 (by omega) (by omega) (by unfold Gen; rw [facs_1]; decide) (by intro m h1 h2; unfold Gen; rw [facs_1]; omega)
theorem vCheck_2 : chkE 2 = 0 := chk_yes (P := 2) pr_2 (by omega)
theorem vCheck_3 : chkE 3 = 0 := chk_yes (P := 3) pr_3 (by omega)
theorem vCheck_1 : chkE 1 = 2 := chk_out (by omega)
theorem vCheck_0 : chkE 0 = 2 := chk_out (by omega)
theorem vCheck_m7 : chkE (-7) = 2 := chk_out (by omega)
theorem vCheck_9 : chkE 9 = 2 := chk_no (P := 9) (by omega) (by omega) (not_pr (d := 3) (by omega) (by omega) (by decide))
theorem vCheck_1999999973 : chkE 1999999973 = 0 := chk_yes (P := 1999999973) pr_1999999973 (by omega)
theorem vCheck_2000000011 : chkE 2000000011 = 2 := chk_out (by omega)
theorem vCheck_9223372036854775807 : chkE 9223372036854775807 = 2 := chk_out (by omega)
theorem vCheck_1000000007 : chkE 1000000007 = 0 := chk_yes (P := 1000000007) pr_1000000007 (by omega)
theorem vGen_2 : genS 2 = (1, 0) := gen_val (P := 2) pr_2 (by omega) gn_2
theorem vInv_2_1 : invS 2 1 = (1, 0) := inv_val (P := 2) (A := 1) pr_2 (by omega) (by omega) (by omega) (by decide)
theorem vOrder_2_1 : ordS 2 1 = (1, 0) := ord_val (P := 2) (A := 1) pr_2 (by omega) (by omega) (by omega) (by unfold ordN; rw [facs_1]; decide)
theorem vRoot_2_1 : rootS 2 1 = (1, 0) := root_val (P := 2) (N := 1) pr_2 (by omega) (by omega) (by decide) (by unfold rootN; rw [gn_2])
theorem vPow_5_0_0 : powS 5 0 0 = (1, 0) := pow_val (P := 5) (A := 0) (N := 0) pr_5 (by omega) (by omega) (by decide +kernel)
theorem vPow_5_0_3 : powS 5 0 3 = (0, 0) := pow_val (P := 5) (A := 0) (N := 3) pr_5 (by omega) (by omega) (by decide +kernel)
theorem vPow_1000000007_2_1000000006 : powS 1000000007 2 1000000006 = (1, 0) := pow_fermat (P := 1000000007) (A := 2) (N := 1000000006) pr_1000000007 (by omega) (by omega) (by decide) (by omega)
theorem vPow_5_5_1 : powS 5 5 1 = (0, 8) := pow_bad (P := 5) pr_5 (by omega) (by omega)
theorem vPow_5_m1_1 : powS 5 (-1) 1 = (0, 8) := pow_bad (P := 5) pr_5 (by omega) (by omega)
theorem vPow_5_1_m1 : powS 5 1 (-1) = (0, 2) := pow_neg (P := 5) (A := 1) pr_5 (by omega) (by omega) (by omega)
theorem vPow_4_9_m1 : powS 4 9 (-1) = (0, 2) := badpow (P := 4) (by omega) (by omega) (not_pr (d := 2) (by omega) (by omega) (by decide))
theorem vInv_5_0 : invS 5 0 = (0, 18) := inv_zero (P := 5) pr_5 (by omega)
theorem vOrder_5_0 : ordS 5 0 = (0, 18) := ord_zero (P := 5) pr_5 (by omega)
theorem vOrder_5_5 : ordS 5 5 = (0, 8) := ord_bad (P := 5) pr_5 (by omega) (by omega)
theorem vRoot_5_0 : rootS 5 0 = (0, 2) := root_arg (P := 5) pr_5 (by omega) (by omega)
theorem vRoot_5_3 : rootS 5 3 = (0, 6) := root_none (P := 5) pr_5 (by omega) (by omega) (by decide)
theorem vRoot_6_0 : rootS 6 0 = (0, 2) := badroo (P := 6) (by omega) (by omega) (not_pr (d := 2) (by omega) (by omega) (by decide))
theorem vFac_1 : facS 1 = ([], 0) := (facS_in (N := 1) (by omega) (by omega)).trans (by rw [facs_1]; rfl)
theorem vFac_0 : facS 0 = ([], 2) := facS_out (by omega)
theorem vFac_2000000001 : facS 2000000001 = ([], 2) := facS_out (by omega)
theorem vFac_1999999973 : facS 1999999973 = ([1999999973], 0) := (facS_in (N := 1999999973) (by omega) (by omega)).trans (by rw [facs_1999999973]; rfl)
set_option maxRecDepth 20000 in
set_option maxHeartbeats 2000000 in
theorem ringNames_walk (w : World) : Calls Try.prog 8 #[] w fun e w' => e = .returned (.bool true) ∧ Below w.heap.size w w' := by
  go_enter Try.func8, Try.ntmps8
  go_wp2_with fail
  refine (ringCheck_at 2 0 vCheck_2 _ (by omega) (by omega)).mono ?_
  rintro _ w1 ⟨rfl, hb1⟩
  have hB1 := hb1
  clear hb1
  go_wp2_with fail
  refine (ringCheck_at 3 0 vCheck_3 _ (by omega) (by omega)).mono ?_
  rintro _ w2 ⟨rfl, hb2⟩
  have hB2 := bstep hB1 hb2
  clear hB1 hb2
  go_wp2_with fail
  refine (ringCheck_at 1 2 vCheck_1 _ (by omega) (by omega)).mono ?_
  rintro _ w3 ⟨rfl, hb3⟩
  have hB3 := bstep hB2 hb3
  clear hB2 hb3
  go_wp2_with fail
  refine (ringCheck_at 0 2 vCheck_0 _ (by omega) (by omega)).mono ?_
  rintro _ w4 ⟨rfl, hb4⟩
  have hB4 := bstep hB3 hb4
  clear hB3 hb4
  go_wp2_with fail
  refine (ringCheck_at (-7) 2 vCheck_m7 _ (by omega) (by omega)).mono ?_
  rintro _ w5 ⟨rfl, hb5⟩
  have hB5 := bstep hB4 hb5
  clear hB4 hb5
  go_wp2_with fail
  refine (ringCheck_at 9 2 vCheck_9 _ (by omega) (by omega)).mono ?_
  rintro _ w6 ⟨rfl, hb6⟩
  have hB6 := bstep hB5 hb6
  clear hB5 hb6
  go_wp2_with fail
  refine (ringCheck_at 1999999973 0 vCheck_1999999973 _ (by omega) (by omega)).mono ?_
  rintro _ w7 ⟨rfl, hb7⟩
  have hB7 := bstep hB6 hb7
  clear hB6 hb7
  go_wp2_with fail
  refine (ringCheck_at 2000000011 2 vCheck_2000000011 _ (by omega) (by omega)).mono ?_
  rintro _ w8 ⟨rfl, hb8⟩
  have hB8 := bstep hB7 hb8
  clear hB7 hb8
  go_wp2_with fail
  refine (ringCheck_at 9223372036854775807 2 vCheck_9223372036854775807 _ (by omega) (by omega)).mono ?_
  rintro _ w9 ⟨rfl, hb9⟩
  have hB9 := bstep hB8 hb9
  clear hB8 hb9
  go_wp2_with fail
  refine (ringCheck_at 1000000007 0 vCheck_1000000007 _ (by omega) (by omega)).mono ?_
  rintro _ w10 ⟨rfl, hb10⟩
  have hB10 := bstep hB9 hb10
  clear hB9 hb10
  go_wp2_with fail
  refine (ringGen_at 2 1 0 vGen_2 _ (by omega) (by omega)).mono ?_
  rintro _ w11 ⟨rfl, hb11⟩
  have hB11 := bstep hB10 hb11
  clear hB10 hb11
  go_wp2_with fail
  refine (ringInv_at 2 1 1 0 vInv_2_1 _ (by omega) (by omega)).mono ?_
  rintro _ w12 ⟨rfl, hb12⟩
  have hB12 := bstep hB11 hb12
  clear hB11 hb12
  go_wp2_with fail
  refine (ringOrder_at 2 1 1 0 vOrder_2_1 _ (by omega) (by omega)).mono ?_
  rintro _ w13 ⟨rfl, hb13⟩
  have hB13 := bstep hB12 hb13
  clear hB12 hb13
  go_wp2_with fail
  refine (ringRoot_at 2 1 1 0 vRoot_2_1 _ (by omega) (by omega) (by omega)).mono ?_
  rintro _ w14 ⟨rfl, hb14⟩
  have hB14 := bstep hB13 hb14
  clear hB13 hb14
  go_wp2_with fail
  refine (ringPow_at 5 0 0 1 0 vPow_5_0_0 _ (by omega) (by omega) (by omega)).mono ?_
  rintro _ w15 ⟨rfl, hb15⟩
  have hB15 := bstep hB14 hb15
  clear hB14 hb15
  go_wp2_with fail
  refine (ringPow_at 5 0 3 0 0 vPow_5_0_3 _ (by omega) (by omega) (by omega)).mono ?_
  rintro _ w16 ⟨rfl, hb16⟩
  have hB16 := bstep hB15 hb16
  clear hB15 hb16
  go_wp2_with fail
  refine (ringPow_at 1000000007 2 1000000006 1 0 vPow_1000000007_2_1000000006 _ (by omega) (by omega) (by omega)).mono ?_
  rintro _ w17 ⟨rfl, hb17⟩
  have hB17 := bstep hB16 hb17
  clear hB16 hb17
  go_wp2_with fail
  refine (is_yes 1 _).mono ?_
  rintro _ _ ⟨rfl, rfl⟩
  go_wp2_with fail
  refine (is_yes 1 _).mono ?_
  rintro _ _ ⟨rfl, rfl⟩
  go_wp2_with fail
  refine (is_yes 1 _).mono ?_
  rintro _ _ ⟨rfl, rfl⟩
  go_wp2_with fail
  refine (is_yes 1 _).mono ?_
  rintro _ _ ⟨rfl, rfl⟩
  go_wp2_with fail
  refine (is_yes 1 _).mono ?_
  rintro _ _ ⟨rfl, rfl⟩
  go_wp2_with fail
  refine (is_yes 0 _).mono ?_
  rintro _ _ ⟨rfl, rfl⟩
  go_wp2_with fail
  refine (is_yes 1 _).mono ?_
  rintro _ _ ⟨rfl, rfl⟩
  go_wp2_with fail
  refine (ringPow_at 5 5 1 0 8 vPow_5_5_1 _ (by omega) (by omega) (by omega)).mono ?_
  rintro _ w25 ⟨rfl, hb25⟩
  have hB25 := bstep hB17 hb25
  clear hB17 hb25
  go_wp2_with fail
  refine (ringPow_at 5 (-1) 1 0 8 vPow_5_m1_1 _ (by omega) (by omega) (by omega)).mono ?_
  rintro _ w26 ⟨rfl, hb26⟩
  have hB26 := bstep hB25 hb26
  clear hB25 hb26
  go_wp2_with fail
  refine (ringPow_at 5 1 (-1) 0 2 vPow_5_1_m1 _ (by omega) (by omega) (by omega)).mono ?_
  rintro _ w27 ⟨rfl, hb27⟩
  have hB27 := bstep hB26 hb27
  clear hB26 hb27
  go_wp2_with fail
  refine (ringPow_at 4 9 (-1) 0 2 vPow_4_9_m1 _ (by omega) (by omega) (by omega)).mono ?_
  rintro _ w28 ⟨rfl, hb28⟩
  have hB28 := bstep hB27 hb28
  clear hB27 hb28
  go_wp2_with fail
  refine (ringInv_at 5 0 0 18 vInv_5_0 _ (by omega) (by omega)).mono ?_
  rintro _ w29 ⟨rfl, hb29⟩
  have hB29 := bstep hB28 hb29
  clear hB28 hb29
  go_wp2_with fail
  refine (ringOrder_at 5 0 0 18 vOrder_5_0 _ (by omega) (by omega)).mono ?_
  rintro _ w30 ⟨rfl, hb30⟩
  have hB30 := bstep hB29 hb30
  clear hB29 hb30
  go_wp2_with fail
  refine (ringOrder_at 5 5 0 8 vOrder_5_5 _ (by omega) (by omega)).mono ?_
  rintro _ w31 ⟨rfl, hb31⟩
  have hB31 := bstep hB30 hb31
  clear hB30 hb31
  go_wp2_with fail
  refine (ringRoot_at 5 0 0 2 vRoot_5_0 _ (by omega) (by omega) (by omega)).mono ?_
  rintro _ w32 ⟨rfl, hb32⟩
  have hB32 := bstep hB31 hb32
  clear hB31 hb32
  go_wp2_with fail
  refine (ringRoot_at 5 3 0 6 vRoot_5_3 _ (by omega) (by omega) (by omega)).mono ?_
  rintro _ w33 ⟨rfl, hb33⟩
  have hB33 := bstep hB32 hb33
  clear hB32 hb33
  go_wp2_with fail
  refine (ringRoot_at 6 0 0 2 vRoot_6_0 _ (by omega) (by omega) (by omega)).mono ?_
  rintro _ w34 ⟨rfl, hb34⟩
  have hB34 := bstep hB33 hb34
  clear hB33 hb34
  go_wp2_with fail
  refine (ringFacs_at 1 [] 0 vFac_1 _ (by omega) (by omega)).mono ?_
  rintro _ w35 ⟨A35, c35, rfl, r35, hb35⟩
  have hB35 := bstep hB34 hb35
  clear hB34 hb35
  clear r35
  go_wp2_with fail
  refine (ringFacs_at 0 [] 2 vFac_0 _ (by omega) (by omega)).mono ?_
  rintro _ w36 ⟨A36, c36, rfl, r36, hb36⟩
  have hB36 := bstep hB35 hb36
  clear hB35 hb36
  clear r36
  go_wp2_with fail
  refine (ringFacs_at 2000000001 [] 2 vFac_2000000001 _ (by omega) (by omega)).mono ?_
  rintro _ w37 ⟨A37, c37, rfl, r37, hb37⟩
  have hB37 := bstep hB36 hb37
  clear hB36 hb37
  clear r37
  go_wp2_with fail
  refine (ringFacs_at 1999999973 [1999999973] 0 vFac_1999999973 _ (by omega) (by omega)).mono ?_
  rintro _ w38 ⟨A38, c38, rfl, r38, hb38⟩
  have hB38 := bstep hB37 hb38
  clear hB37 hb38
  have rf := r38
  clear r38
  have hb90 := balloc hB38 (.cells #[.int .i64 1999999973] 2)
  have rl := RI_lit' (W := w38.alloc (.cells #[.int .i64 1999999973] 2)) (t := 2) (k := .i64) [1999999973] _ rfl (Blk.new w38 2 _) rfl
  have rk := rf.keep (balloc (Below.refl _ _) (.cells #[.int .i64 1999999973] 2))
  go_wp2_with fail
  refine (same10_any _ _ _ _ _ _ _ rk rl (by decide) (by decide)).mono ?_
  rintro _ w90 ⟨rfl, q9, rfl⟩
  go_wp2_with fail
  refine (alive10_any _).mono ?_
  rintro _ w91 ⟨rfl, hb91⟩
  go_wp2
  go_ret
  exact ⟨ret_bool (by decide), bstep (below_drewN hb90 _) hb91⟩
end Nm
theorem ringNames_walk (w : World) : Calls Try.prog 8 #[] w fun e w' => e = .returned (.bool true) ∧ Below w.heap.size w w' := Nm.ringNames_walk w
end Go.Proofs.Ytnngkghmhbcgeaa
