/-
  The walk of SearchNames. Printed by gen_searchnames.py.
-/
import Derived.Test.YtnejmgnbamajdaaSearchJ
namespace Go.Proofs.Ytnejmgnbamajdaa
open Go.RowKit
set_option linter.unusedVariables false

theorem nm257 : stopSpec (List.replicate 257 0) 0 1 = ([], 4) := by decide +kernel
theorem nm1 : turnSpec (1000000001, 0) (0) = ((0, 0), 16) := by decide
theorem nm2 : turnSpec (0, -1000000001) (1) = ((0, 0), 16) := by decide
theorem nm3 : turnSpec (1000000000, 5) (-9223372036854775808) = ((1000000000, 5), 0) := by decide
theorem nm4 : turnSpec (3, 5) (-1) = ((5, -3), 0) := by decide
theorem nm5 : atSpec [1, 1, -1, -1] [1, 1, 1, 1] 33 0 1 = (zeroC, 2) := by decide
theorem nm6 : atSpec [1, 1, -1, -1] [1, 1, 1, 1] 0 4 1 = (zeroC, 2) := by decide
theorem nm7 : atSpec [1, 1, -1, -1] [1, 1, 1, 1] 0 (-1) 1 = (zeroC, 2) := by decide
theorem nm8 : atSpec [1, 1, -1, -1] [1, 1, 1, 1] 0 0 0 = (zeroC, 2) := by decide
theorem nm9 : atSpec [1, 1, -1, -1] [2] 99 0 0 = (zeroC, 8) := by decide
theorem nm10 : gridSpec [1, 1, -1, -1] [1, 1, 1, 1] 33 1 = ([], 2) := by decide
theorem nm11 : gridSpec [1, 1, -1, -1] [1, 1, 1, 1] 0 257 = ([], 2) := by decide
theorem nm12 : bestSpec [1, 1, -1, -1] [1, 1, 1, 1] (-1) 1 = (zeroC, 2) := by decide
theorem nm13 : bestSpec [0, 1] [1] 0 1 = (zeroC, 18) := by decide
theorem nm14 : stopSpec [1, 1, -1, -1] 4 1 = ([], 2) := by decide
theorem nm15 : stopSpec [1, 1, -1, -1] 1 2 = ([(1, 0), (1, 0), (0, 1), (0, 1)], 0) := by decide
theorem nm16 : bestSpec [1] [0, 1] 1 1 = (⟨1, 0, 1, 0, 1⟩, 0) := by decide
theorem nm17 : bestSpec [0, 1, 0] [1, 0, 1] 1 256 = (⟨-1, 0, 1, 0, 1⟩, 0) := by decide
set_option maxRecDepth 100000 in
set_option maxHeartbeats 16000000 in
theorem searchNames_walk (w : World) : Calls Try.prog 8 #[] w fun e w' => e = .returned (.bool true) ∧ Below w.heap.size w w' := by
  obtain ⟨i0, hi0, hz0, hz1, hz2⟩ := info_parts info_int
  have hmk := mk_row (P := Try.prog) 24 3 Try.underlying24 hi0 hz0 hz1 hz2 (encI .i64) (encI_len .i64) (by omega) 0 rfl 257 (by omega) (by omega)
  rw [show ((257 : Nat) : Int) = 257 from rfl] at hmk
  go_enter Try.func8, Try.ntmps8
  have hB0 := Below.refl w.heap.size w
  have h1 := fun w => searchTurn_any (1000000001, 0) (0) w
  rw [nm1] at h1
  go_wp2_with fail
  refine (h1 _).mono ?_
  rintro _ w1 ⟨rfl, hb1⟩
  have hB1 := bstep hB0 hb1
  clear hb1 hB0
  have hM1 := balloc hB1 (.cells #[.int .i64 0, .int .i64 0] 23)
  clear hB1
  clear h1
  have h2 := fun w => searchTurn_any (0, -1000000001) (1) w
  rw [nm2] at h2
  go_wp2_with fail
  refine (h2 _).mono ?_
  rintro _ w2 ⟨rfl, hb2⟩
  have hB2 := bstep hM1 hb2
  clear hb2 hM1
  have hM2 := balloc hB2 (.cells #[.int .i64 0, .int .i64 0] 23)
  clear hB2
  clear h2
  have h3 := fun w => searchTurn_any (1000000000, 5) (-9223372036854775808) w
  rw [nm3] at h3
  go_wp2_with fail
  refine (h3 _).mono ?_
  rintro _ w3 ⟨rfl, hb3⟩
  have hB3 := bstep hM2 hb3
  clear hb3 hM2
  have hM3 := balloc hB3 (.cells #[.int .i64 1000000000, .int .i64 5] 23)
  clear hB3
  have hV := Blk.new w3 23 #[.int .i64 1000000000, .int .i64 5]
  clear h3
  have h4 := fun w => searchTurn_any (3, 5) (-1) w
  rw [nm4] at h4
  go_wp2_with fail
  refine (h4 _).mono ?_
  rintro _ w4 ⟨rfl, hb4⟩
  replace hV := hV.keep hb4
  have hB4 := bstep hM3 hb4
  clear hb4 hM3
  replace hV := hV.keep (balloc (Below.refl _ _) (.cells #[.int .i64 5, .int .i64 (-3)] 23))
  have hM4 := balloc hB4 (.cells #[.int .i64 5, .int .i64 (-3)] 23)
  clear hB4
  have hW := Blk.new w4 23 #[.int .i64 5, .int .i64 (-3)]
  clear h4
  have h5 := fun A B c d w hx hy => searchAt_any A B c d [1, 1, -1, -1] [1, 1, 1, 1] 33 0 1 w hx hy (by simp) (by simp)
  rw [nm5] at h5
  go_wp2_with fail
  refine (given20 _).mono ?_
  rintro _ w5 ⟨A5, c5, rfl, r5, hb5⟩
  replace hV := hV.keep hb5
  replace hW := hW.keep hb5
  have hB5 := bstep hM4 hb5
  clear hb5 hM4
  have rX := r5
  clear r5
  go_wp2_with fail
  refine (ones20 _).mono ?_
  rintro _ w6 ⟨A6, c6, rfl, r6, hb6⟩
  replace hV := hV.keep hb6
  replace hW := hW.keep hb6
  replace rX := rX.keep hb6
  have hB6 := bstep hB5 hb6
  clear hb6 hB5
  have rY := r6
  clear r6
  go_wp2_with fail
  refine (h5 _ _ _ _ _ rX rY).mono ?_
  rintro _ w7 ⟨rfl, hb7⟩
  replace hV := hV.keep hb7
  replace hW := hW.keep hb7
  replace rX := rX.keep hb7
  replace rY := rY.keep hb7
  have hB7 := bstep hB6 hb7
  clear hb7 hB6
  replace hV := hV.keep (balloc (Below.refl _ _) (.cells #[.int .i64 0, .int .i64 0, .int .i64 0, .int .i64 0, .int .i64 0] 32))
  replace hW := hW.keep (balloc (Below.refl _ _) (.cells #[.int .i64 0, .int .i64 0, .int .i64 0, .int .i64 0, .int .i64 0] 32))
  replace rX := rX.keep (balloc (Below.refl _ _) (.cells #[.int .i64 0, .int .i64 0, .int .i64 0, .int .i64 0, .int .i64 0] 32))
  replace rY := rY.keep (balloc (Below.refl _ _) (.cells #[.int .i64 0, .int .i64 0, .int .i64 0, .int .i64 0, .int .i64 0] 32))
  have hM5 := balloc hB7 (.cells #[.int .i64 0, .int .i64 0, .int .i64 0, .int .i64 0, .int .i64 0] 32)
  clear hB7
  clear h5
  clear rX
  clear rY
  have h6 := fun A B c d w hx hy => searchAt_any A B c d [1, 1, -1, -1] [1, 1, 1, 1] 0 4 1 w hx hy (by simp) (by simp)
  rw [nm6] at h6
  go_wp2_with fail
  refine (given20 _).mono ?_
  rintro _ w8 ⟨A8, c8, rfl, r8, hb8⟩
  replace hV := hV.keep hb8
  replace hW := hW.keep hb8
  have hB8 := bstep hM5 hb8
  clear hb8 hM5
  have rX := r8
  clear r8
  go_wp2_with fail
  refine (ones20 _).mono ?_
  rintro _ w9 ⟨A9, c9, rfl, r9, hb9⟩
  replace hV := hV.keep hb9
  replace hW := hW.keep hb9
  replace rX := rX.keep hb9
  have hB9 := bstep hB8 hb9
  clear hb9 hB8
  have rY := r9
  clear r9
  go_wp2_with fail
  refine (h6 _ _ _ _ _ rX rY).mono ?_
  rintro _ w10 ⟨rfl, hb10⟩
  replace hV := hV.keep hb10
  replace hW := hW.keep hb10
  replace rX := rX.keep hb10
  replace rY := rY.keep hb10
  have hB10 := bstep hB9 hb10
  clear hb10 hB9
  replace hV := hV.keep (balloc (Below.refl _ _) (.cells #[.int .i64 0, .int .i64 0, .int .i64 0, .int .i64 0, .int .i64 0] 32))
  replace hW := hW.keep (balloc (Below.refl _ _) (.cells #[.int .i64 0, .int .i64 0, .int .i64 0, .int .i64 0, .int .i64 0] 32))
  replace rX := rX.keep (balloc (Below.refl _ _) (.cells #[.int .i64 0, .int .i64 0, .int .i64 0, .int .i64 0, .int .i64 0] 32))
  replace rY := rY.keep (balloc (Below.refl _ _) (.cells #[.int .i64 0, .int .i64 0, .int .i64 0, .int .i64 0, .int .i64 0] 32))
  have hM6 := balloc hB10 (.cells #[.int .i64 0, .int .i64 0, .int .i64 0, .int .i64 0, .int .i64 0] 32)
  clear hB10
  clear h6
  clear rX
  clear rY
  have h7 := fun A B c d w hx hy => searchAt_any A B c d [1, 1, -1, -1] [1, 1, 1, 1] 0 (-1) 1 w hx hy (by simp) (by simp)
  rw [nm7] at h7
  go_wp2_with fail
  refine (given20 _).mono ?_
  rintro _ w11 ⟨A11, c11, rfl, r11, hb11⟩
  replace hV := hV.keep hb11
  replace hW := hW.keep hb11
  have hB11 := bstep hM6 hb11
  clear hb11 hM6
  have rX := r11
  clear r11
  go_wp2_with fail
  refine (ones20 _).mono ?_
  rintro _ w12 ⟨A12, c12, rfl, r12, hb12⟩
  replace hV := hV.keep hb12
  replace hW := hW.keep hb12
  replace rX := rX.keep hb12
  have hB12 := bstep hB11 hb12
  clear hb12 hB11
  have rY := r12
  clear r12
  go_wp2_with fail
  refine (h7 _ _ _ _ _ rX rY).mono ?_
  rintro _ w13 ⟨rfl, hb13⟩
  replace hV := hV.keep hb13
  replace hW := hW.keep hb13
  replace rX := rX.keep hb13
  replace rY := rY.keep hb13
  have hB13 := bstep hB12 hb13
  clear hb13 hB12
  replace hV := hV.keep (balloc (Below.refl _ _) (.cells #[.int .i64 0, .int .i64 0, .int .i64 0, .int .i64 0, .int .i64 0] 32))
  replace hW := hW.keep (balloc (Below.refl _ _) (.cells #[.int .i64 0, .int .i64 0, .int .i64 0, .int .i64 0, .int .i64 0] 32))
  replace rX := rX.keep (balloc (Below.refl _ _) (.cells #[.int .i64 0, .int .i64 0, .int .i64 0, .int .i64 0, .int .i64 0] 32))
  replace rY := rY.keep (balloc (Below.refl _ _) (.cells #[.int .i64 0, .int .i64 0, .int .i64 0, .int .i64 0, .int .i64 0] 32))
  have hM7 := balloc hB13 (.cells #[.int .i64 0, .int .i64 0, .int .i64 0, .int .i64 0, .int .i64 0] 32)
  clear hB13
  clear h7
  clear rX
  clear rY
  have h8 := fun A B c d w hx hy => searchAt_any A B c d [1, 1, -1, -1] [1, 1, 1, 1] 0 0 0 w hx hy (by simp) (by simp)
  rw [nm8] at h8
  go_wp2_with fail
  refine (given20 _).mono ?_
  rintro _ w14 ⟨A14, c14, rfl, r14, hb14⟩
  replace hV := hV.keep hb14
  replace hW := hW.keep hb14
  have hB14 := bstep hM7 hb14
  clear hb14 hM7
  have rX := r14
  clear r14
  go_wp2_with fail
  refine (ones20 _).mono ?_
  rintro _ w15 ⟨A15, c15, rfl, r15, hb15⟩
  replace hV := hV.keep hb15
  replace hW := hW.keep hb15
  replace rX := rX.keep hb15
  have hB15 := bstep hB14 hb15
  clear hb15 hB14
  have rY := r15
  clear r15
  go_wp2_with fail
  refine (h8 _ _ _ _ _ rX rY).mono ?_
  rintro _ w16 ⟨rfl, hb16⟩
  replace hV := hV.keep hb16
  replace hW := hW.keep hb16
  replace rX := rX.keep hb16
  replace rY := rY.keep hb16
  have hB16 := bstep hB15 hb16
  clear hb16 hB15
  replace hV := hV.keep (balloc (Below.refl _ _) (.cells #[.int .i64 0, .int .i64 0, .int .i64 0, .int .i64 0, .int .i64 0] 32))
  replace hW := hW.keep (balloc (Below.refl _ _) (.cells #[.int .i64 0, .int .i64 0, .int .i64 0, .int .i64 0, .int .i64 0] 32))
  replace rX := rX.keep (balloc (Below.refl _ _) (.cells #[.int .i64 0, .int .i64 0, .int .i64 0, .int .i64 0, .int .i64 0] 32))
  replace rY := rY.keep (balloc (Below.refl _ _) (.cells #[.int .i64 0, .int .i64 0, .int .i64 0, .int .i64 0, .int .i64 0] 32))
  have hM8 := balloc hB16 (.cells #[.int .i64 0, .int .i64 0, .int .i64 0, .int .i64 0, .int .i64 0] 32)
  clear hB16
  clear h8
  clear rX
  clear rY
  have h9 := fun A B c d w hx hy => searchAt_any A B c d [1, 1, -1, -1] [2] 99 0 0 w hx hy (by simp) (by simp)
  rw [nm9] at h9
  go_wp2_with fail
  refine (given20 _).mono ?_
  rintro _ w17 ⟨A17, c17, rfl, r17, hb17⟩
  replace hV := hV.keep hb17
  replace hW := hW.keep hb17
  have hB17 := bstep hM8 hb17
  clear hb17 hM8
  have rX := r17
  clear r17
  replace hV := hV.keep (balloc (Below.refl _ _) (.cells #[.int .i64 2] 3))
  replace hW := hW.keep (balloc (Below.refl _ _) (.cells #[.int .i64 2] 3))
  replace rX := rX.keep (balloc (Below.refl _ _) (.cells #[.int .i64 2] 3))
  have hM9 := balloc hB17 (.cells #[.int .i64 2] 3)
  clear hB17
  go_wp2_with fail
  refine (h9 _ _ _ _ _ rX (RI_lit' (t := 3) [2] _ rfl (Blk.newAt _ _ (by simp)) rfl)).mono ?_
  rintro _ w18 ⟨rfl, hb18⟩
  replace hV := hV.keep hb18
  replace hW := hW.keep hb18
  replace rX := rX.keep hb18
  have hB18 := bstep hM9 hb18
  clear hb18 hM9
  replace hV := hV.keep (balloc (Below.refl _ _) (.cells #[.int .i64 0, .int .i64 0, .int .i64 0, .int .i64 0, .int .i64 0] 32))
  replace hW := hW.keep (balloc (Below.refl _ _) (.cells #[.int .i64 0, .int .i64 0, .int .i64 0, .int .i64 0, .int .i64 0] 32))
  replace rX := rX.keep (balloc (Below.refl _ _) (.cells #[.int .i64 0, .int .i64 0, .int .i64 0, .int .i64 0, .int .i64 0] 32))
  have hM10 := balloc hB18 (.cells #[.int .i64 0, .int .i64 0, .int .i64 0, .int .i64 0, .int .i64 0] 32)
  clear hB18
  clear h9
  clear rX
  have h10 := fun A B c d w hx hy => searchGrid_any A B c d [1, 1, -1, -1] [1, 1, 1, 1] 33 1 w hx hy (by simp) (by simp)
  rw [nm10] at h10
  go_wp2_with fail
  refine (given20 _).mono ?_
  rintro _ w19 ⟨A19, c19, rfl, r19, hb19⟩
  replace hV := hV.keep hb19
  replace hW := hW.keep hb19
  have hB19 := bstep hM10 hb19
  clear hb19 hM10
  have rX := r19
  clear r19
  go_wp2_with fail
  refine (ones20 _).mono ?_
  rintro _ w20 ⟨A20, c20, rfl, r20, hb20⟩
  replace hV := hV.keep hb20
  replace hW := hW.keep hb20
  replace rX := rX.keep hb20
  have hB20 := bstep hB19 hb20
  clear hb20 hB19
  have rY := r20
  clear r20
  go_wp2_with fail
  refine (h10 _ _ _ _ _ rX rY).mono ?_
  rintro _ w21 ⟨A21, c21, rfl, ho21, hb21⟩
  clear ho21
  replace hV := hV.keep hb21
  replace hW := hW.keep hb21
  replace rX := rX.keep hb21
  replace rY := rY.keep hb21
  have hB21 := bstep hB20 hb21
  clear hb21 hB20
  clear h10
  clear rX
  clear rY
  have h11 := fun A B c d w hx hy => searchGrid_any A B c d [1, 1, -1, -1] [1, 1, 1, 1] 0 257 w hx hy (by simp) (by simp)
  rw [nm11] at h11
  go_wp2_with fail
  refine (given20 _).mono ?_
  rintro _ w22 ⟨A22, c22, rfl, r22, hb22⟩
  replace hV := hV.keep hb22
  replace hW := hW.keep hb22
  have hB22 := bstep hB21 hb22
  clear hb22 hB21
  have rX := r22
  clear r22
  go_wp2_with fail
  refine (ones20 _).mono ?_
  rintro _ w23 ⟨A23, c23, rfl, r23, hb23⟩
  replace hV := hV.keep hb23
  replace hW := hW.keep hb23
  replace rX := rX.keep hb23
  have hB23 := bstep hB22 hb23
  clear hb23 hB22
  have rY := r23
  clear r23
  go_wp2_with fail
  refine (h11 _ _ _ _ _ rX rY).mono ?_
  rintro _ w24 ⟨A24, c24, rfl, ho24, hb24⟩
  clear ho24
  replace hV := hV.keep hb24
  replace hW := hW.keep hb24
  replace rX := rX.keep hb24
  replace rY := rY.keep hb24
  have hB24 := bstep hB23 hb24
  clear hb24 hB23
  clear h11
  clear rX
  clear rY
  have h12 := fun A B c d w hx hy => searchBest_any A B c d [1, 1, -1, -1] [1, 1, 1, 1] (-1) 1 w hx hy (by simp) (by simp)
  rw [nm12] at h12
  go_wp2_with fail
  refine (given20 _).mono ?_
  rintro _ w25 ⟨A25, c25, rfl, r25, hb25⟩
  replace hV := hV.keep hb25
  replace hW := hW.keep hb25
  have hB25 := bstep hB24 hb25
  clear hb25 hB24
  have rX := r25
  clear r25
  go_wp2_with fail
  refine (ones20 _).mono ?_
  rintro _ w26 ⟨A26, c26, rfl, r26, hb26⟩
  replace hV := hV.keep hb26
  replace hW := hW.keep hb26
  replace rX := rX.keep hb26
  have hB26 := bstep hB25 hb26
  clear hb26 hB25
  have rY := r26
  clear r26
  go_wp2_with fail
  refine (h12 _ _ _ _ _ rX rY).mono ?_
  rintro _ w27 ⟨rfl, hb27⟩
  replace hV := hV.keep hb27
  replace hW := hW.keep hb27
  replace rX := rX.keep hb27
  replace rY := rY.keep hb27
  have hB27 := bstep hB26 hb27
  clear hb27 hB26
  replace hV := hV.keep (balloc (Below.refl _ _) (.cells #[.int .i64 0, .int .i64 0, .int .i64 0, .int .i64 0, .int .i64 0] 32))
  replace hW := hW.keep (balloc (Below.refl _ _) (.cells #[.int .i64 0, .int .i64 0, .int .i64 0, .int .i64 0, .int .i64 0] 32))
  replace rX := rX.keep (balloc (Below.refl _ _) (.cells #[.int .i64 0, .int .i64 0, .int .i64 0, .int .i64 0, .int .i64 0] 32))
  replace rY := rY.keep (balloc (Below.refl _ _) (.cells #[.int .i64 0, .int .i64 0, .int .i64 0, .int .i64 0, .int .i64 0] 32))
  have hM11 := balloc hB27 (.cells #[.int .i64 0, .int .i64 0, .int .i64 0, .int .i64 0, .int .i64 0] 32)
  clear hB27
  clear h12
  clear rX
  clear rY
  have h13 := fun A B c d w hx hy => searchBest_any A B c d [0, 1] [1] 0 1 w hx hy (by simp) (by simp)
  rw [nm13] at h13
  replace hV := hV.keep (balloc (Below.refl _ _) (.cells #[.int .i64 0, .int .i64 1] 3))
  replace hW := hW.keep (balloc (Below.refl _ _) (.cells #[.int .i64 0, .int .i64 1] 3))
  have hM12 := balloc hM11 (.cells #[.int .i64 0, .int .i64 1] 3)
  clear hM11
  replace hV := hV.keep (balloc (Below.refl _ _) (.cells #[.int .i64 1] 3))
  replace hW := hW.keep (balloc (Below.refl _ _) (.cells #[.int .i64 1] 3))
  have hM13 := balloc hM12 (.cells #[.int .i64 1] 3)
  clear hM12
  go_wp2_with fail
  refine (h13 _ _ _ _ _ (RI_lit' (t := 3) [0, 1] _ rfl ((Blk.newAt _ _ (by simp)).alloc _) rfl) (RI_lit' (t := 3) [1] _ rfl (Blk.newAt _ _ (by simp)) rfl)).mono ?_
  rintro _ w28 ⟨rfl, hb28⟩
  replace hV := hV.keep hb28
  replace hW := hW.keep hb28
  have hB28 := bstep hM13 hb28
  clear hb28 hM13
  replace hV := hV.keep (balloc (Below.refl _ _) (.cells #[.int .i64 0, .int .i64 0, .int .i64 0, .int .i64 0, .int .i64 0] 32))
  replace hW := hW.keep (balloc (Below.refl _ _) (.cells #[.int .i64 0, .int .i64 0, .int .i64 0, .int .i64 0, .int .i64 0] 32))
  have hM14 := balloc hB28 (.cells #[.int .i64 0, .int .i64 0, .int .i64 0, .int .i64 0, .int .i64 0] 32)
  clear hB28
  clear h13
  have h14 := fun A c w hx => searchStop_any A c [1, 1, -1, -1] 4 1 w hx (by simp)
  rw [nm14] at h14
  go_wp2_with fail
  refine (given20 _).mono ?_
  rintro _ w29 ⟨A29, c29, rfl, r29, hb29⟩
  replace hV := hV.keep hb29
  replace hW := hW.keep hb29
  have hB29 := bstep hM14 hb29
  clear hb29 hM14
  have rX := r29
  clear r29
  go_wp2_with fail
  refine (h14 _ _ _ rX).mono ?_
  rintro _ w30 ⟨A30, c30, rfl, ho30, hb30⟩
  have rr30 := own_RL ho30
  clear ho30
  replace hV := hV.keep hb30
  replace hW := hW.keep hb30
  replace rX := rX.keep hb30
  have hB30 := bstep hB29 hb30
  clear hb30 hB29
  clear h14
  clear rX
  clear rr30
  have hM257 := balloc hB30 (.cells ((List.replicate 257 (0 : Int)).flatMap (encI .i64)).toArray 3)
  replace hV := hV.keep (balloc (Below.refl _ _) (.cells ((List.replicate 257 (0 : Int)).flatMap (encI .i64)).toArray 3))
  replace hW := hW.keep (balloc (Below.refl _ _) (.cells ((List.replicate 257 (0 : Int)).flatMap (encI .i64)).toArray 3))
  have hS257 := fun A c w hx => searchStop_any A c (List.replicate 257 0) 0 1 w hx (by simp)
  rw [nm257] at hS257
  go_wp2_with fail
  refine (hS257 _ _ _ (blk_RI (e := 3) (Blk.newAt _ _ (by simp)))).mono ?_
  rintro _ w31 ⟨A31, c31, rfl, ho31, hb31⟩
  clear ho31
  replace hV := hV.keep hb31
  replace hW := hW.keep hb31
  have hB31 := bstep hM257 hb31
  clear hb31 hM257
  clear hS257 hmk
  have h15 := fun A c w hx => searchStop_any A c [1, 1, -1, -1] 1 2 w hx (by simp)
  rw [nm15] at h15
  go_wp2_with fail
  refine (given20 _).mono ?_
  rintro _ w32 ⟨A32, c32, rfl, r32, hb32⟩
  replace hV := hV.keep hb32
  replace hW := hW.keep hb32
  have hB32 := bstep hB31 hb32
  clear hb32 hB31
  have rX := r32
  clear r32
  go_wp2_with fail
  refine (h15 _ _ _ rX).mono ?_
  rintro _ w33 ⟨A33, c33, rfl, ho33, hb33⟩
  have rr33 := own_RL ho33
  clear ho33
  replace hV := hV.keep hb33
  replace hW := hW.keep hb33
  replace rX := rX.keep hb33
  have hB33 := bstep hB32 hb33
  clear hb33 hB32
  clear h15
  clear rX
  have rS := rr33
  clear rr33
  have h16 := fun A B c d w hx hy => searchBest_any A B c d [1] [0, 1] 1 1 w hx hy (by simp) (by simp)
  rw [nm16] at h16
  replace hV := hV.keep (balloc (Below.refl _ _) (.cells #[.int .i64 1] 3))
  replace hW := hW.keep (balloc (Below.refl _ _) (.cells #[.int .i64 1] 3))
  replace rS := rS.keep (balloc (Below.refl _ _) (.cells #[.int .i64 1] 3))
  have hM15 := balloc hB33 (.cells #[.int .i64 1] 3)
  clear hB33
  replace hV := hV.keep (balloc (Below.refl _ _) (.cells #[.int .i64 0, .int .i64 1] 3))
  replace hW := hW.keep (balloc (Below.refl _ _) (.cells #[.int .i64 0, .int .i64 1] 3))
  replace rS := rS.keep (balloc (Below.refl _ _) (.cells #[.int .i64 0, .int .i64 1] 3))
  have hM16 := balloc hM15 (.cells #[.int .i64 0, .int .i64 1] 3)
  clear hM15
  go_wp2_with fail
  refine (h16 _ _ _ _ _ (RI_lit' (t := 3) [1] _ rfl ((Blk.newAt _ _ (by simp)).alloc _) rfl) (RI_lit' (t := 3) [0, 1] _ rfl (Blk.newAt _ _ (by simp)) rfl)).mono ?_
  rintro _ w34 ⟨rfl, hb34⟩
  replace hV := hV.keep hb34
  replace hW := hW.keep hb34
  replace rS := rS.keep hb34
  have hB34 := bstep hM16 hb34
  clear hb34 hM16
  replace hV := hV.keep (balloc (Below.refl _ _) (.cells #[.int .i64 1, .int .i64 0, .int .i64 1, .int .i64 0, .int .i64 1] 32))
  replace hW := hW.keep (balloc (Below.refl _ _) (.cells #[.int .i64 1, .int .i64 0, .int .i64 1, .int .i64 0, .int .i64 1] 32))
  replace rS := rS.keep (balloc (Below.refl _ _) (.cells #[.int .i64 1, .int .i64 0, .int .i64 1, .int .i64 0, .int .i64 1] 32))
  have hM17 := balloc hB34 (.cells #[.int .i64 1, .int .i64 0, .int .i64 1, .int .i64 0, .int .i64 1] 32)
  clear hB34
  have hX := Blk.new w34 32 #[.int .i64 1, .int .i64 0, .int .i64 1, .int .i64 0, .int .i64 1]
  clear h16
  have h17 := fun A B c d w hx hy => searchBest_any A B c d [0, 1, 0] [1, 0, 1] 1 256 w hx hy (by simp) (by simp)
  rw [nm17] at h17
  replace hV := hV.keep (balloc (Below.refl _ _) (.cells #[.int .i64 0, .int .i64 1, .int .i64 0] 3))
  replace hW := hW.keep (balloc (Below.refl _ _) (.cells #[.int .i64 0, .int .i64 1, .int .i64 0] 3))
  replace rS := rS.keep (balloc (Below.refl _ _) (.cells #[.int .i64 0, .int .i64 1, .int .i64 0] 3))
  replace hX := hX.keep (balloc (Below.refl _ _) (.cells #[.int .i64 0, .int .i64 1, .int .i64 0] 3))
  have hM18 := balloc hM17 (.cells #[.int .i64 0, .int .i64 1, .int .i64 0] 3)
  clear hM17
  replace hV := hV.keep (balloc (Below.refl _ _) (.cells #[.int .i64 1, .int .i64 0, .int .i64 1] 3))
  replace hW := hW.keep (balloc (Below.refl _ _) (.cells #[.int .i64 1, .int .i64 0, .int .i64 1] 3))
  replace rS := rS.keep (balloc (Below.refl _ _) (.cells #[.int .i64 1, .int .i64 0, .int .i64 1] 3))
  replace hX := hX.keep (balloc (Below.refl _ _) (.cells #[.int .i64 1, .int .i64 0, .int .i64 1] 3))
  have hM19 := balloc hM18 (.cells #[.int .i64 1, .int .i64 0, .int .i64 1] 3)
  clear hM18
  go_wp2_with fail
  refine (h17 _ _ _ _ _ (RI_lit' (t := 3) [0, 1, 0] _ rfl ((Blk.newAt _ _ (by simp)).alloc _) rfl) (RI_lit' (t := 3) [1, 0, 1] _ rfl (Blk.newAt _ _ (by simp)) rfl)).mono ?_
  rintro _ w35 ⟨rfl, hb35⟩
  replace hV := hV.keep hb35
  replace hW := hW.keep hb35
  replace rS := rS.keep hb35
  replace hX := hX.keep hb35
  have hB35 := bstep hM19 hb35
  clear hb35 hM19
  replace hV := hV.keep (balloc (Below.refl _ _) (.cells #[.int .i64 (-1), .int .i64 0, .int .i64 1, .int .i64 0, .int .i64 1] 32))
  replace hW := hW.keep (balloc (Below.refl _ _) (.cells #[.int .i64 (-1), .int .i64 0, .int .i64 1, .int .i64 0, .int .i64 1] 32))
  replace rS := rS.keep (balloc (Below.refl _ _) (.cells #[.int .i64 (-1), .int .i64 0, .int .i64 1, .int .i64 0, .int .i64 1] 32))
  replace hX := hX.keep (balloc (Below.refl _ _) (.cells #[.int .i64 (-1), .int .i64 0, .int .i64 1, .int .i64 0, .int .i64 1] 32))
  have hM20 := balloc hB35 (.cells #[.int .i64 (-1), .int .i64 0, .int .i64 1, .int .i64 0, .int .i64 1] 32)
  clear hB35
  have hY := Blk.new w35 32 #[.int .i64 (-1), .int .i64 0, .int .i64 1, .int .i64 0, .int .i64 1]
  clear h17
  go_wp2_with fail
  refine (alive20 _).mono ?_
  rintro _ w36 ⟨rfl, hb36⟩
  replace hV := hV.keep hb36
  replace hW := hW.keep hb36
  replace rS := rS.keep hb36
  replace hX := hX.keep hb36
  replace hY := hY.keep hb36
  have hB36 := bstep hM20 hb36
  clear hb36 hM20
  have x0_0 : World.cell? w36 ⟨w3.heap.size, 0, none⟩ = some (.int .i64 1000000000) := hV.cell 0
  have y0_0 := hV.frozen 0
  have x0_1 : World.cell? w36 ⟨w3.heap.size, 1, none⟩ = some (.int .i64 5) := hV.cell 1
  have y0_1 := hV.frozen 1
  have y0_l := hV.lt
  have x1_0 : World.cell? w36 ⟨w4.heap.size, 0, none⟩ = some (.int .i64 5) := hW.cell 0
  have y1_0 := hW.frozen 0
  have x1_1 : World.cell? w36 ⟨w4.heap.size, 1, none⟩ = some (.int .i64 (-3)) := hW.cell 1
  have y1_1 := hW.frozen 1
  have y1_l := hW.lt
  have x2_0 : World.cell? w36 ⟨w34.heap.size, 0, none⟩ = some (.int .i64 1) := hX.cell 0
  have y2_0 := hX.frozen 0
  have x2_1 : World.cell? w36 ⟨w34.heap.size, 1, none⟩ = some (.int .i64 0) := hX.cell 1
  have y2_1 := hX.frozen 1
  have x2_2 : World.cell? w36 ⟨w34.heap.size, 2, none⟩ = some (.int .i64 1) := hX.cell 2
  have y2_2 := hX.frozen 2
  have x2_3 : World.cell? w36 ⟨w34.heap.size, 3, none⟩ = some (.int .i64 0) := hX.cell 3
  have y2_3 := hX.frozen 3
  have x2_4 : World.cell? w36 ⟨w34.heap.size, 4, none⟩ = some (.int .i64 1) := hX.cell 4
  have y2_4 := hX.frozen 4
  have y2_l := hX.lt
  have x3_0 : World.cell? w36 ⟨w35.heap.size, 0, none⟩ = some (.int .i64 (-1)) := hY.cell 0
  have y3_0 := hY.frozen 0
  have x3_1 : World.cell? w36 ⟨w35.heap.size, 1, none⟩ = some (.int .i64 0) := hY.cell 1
  have y3_1 := hY.frozen 1
  have x3_2 : World.cell? w36 ⟨w35.heap.size, 2, none⟩ = some (.int .i64 1) := hY.cell 2
  have y3_2 := hY.frozen 2
  have x3_3 : World.cell? w36 ⟨w35.heap.size, 3, none⟩ = some (.int .i64 0) := hY.cell 3
  have y3_3 := hY.frozen 3
  have x3_4 : World.cell? w36 ⟨w35.heap.size, 4, none⟩ = some (.int .i64 1) := hY.cell 4
  have y3_4 := hY.frozen 4
  have y3_l := hY.lt
  have g1 := eqg_gauss
  have g2 := eq_gauss
  have g3 := eqg_cell
  have g4 := eq_cell
  go_wp2_with fail
  refine (sameGauss_any _ _ _ _ [(1, 0), (1, 0), (0, 1), (0, 1)] [(1, 0), (1, 0), (0, 1), (0, 1)] _ (rS.keep (balloc (Below.refl _ _) _)) (RL_lit [(1, 0), (1, 0), (0, 1), (0, 1)] _ (Blk.newAt _ _ (by simp)) rfl) (by decide) (by decide)).mono ?_
  rintro _ wz ⟨rfl, qz, rfl⟩
  go_wp2
  go_ret
  exact ⟨by simp, below_drewN (balloc hB36 _) _⟩
end Go.Proofs.Ytnejmgnbamajdaa
