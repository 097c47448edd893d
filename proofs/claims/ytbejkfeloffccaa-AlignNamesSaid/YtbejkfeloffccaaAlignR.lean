/-
  The examples of layer 14. Printed by gen_alignalive.py.
-/
import Derived.Test.YtbejkfeloffccaaAlignQ
import Derived.Test.YtbejkfeloffccaaAlignLit
import Derived.Test.YtbejkfeloffccaaAlignS
namespace Go.Proofs.Ytbejkfeloffccaa
open Go.RowKit
set_option linter.unusedVariables false

theorem given14 (w : World) : Calls Try.prog 36 #[] w fun e w' => ∃ A c, e = .returned (.slice A 2 c) ∧ RB w' A [(0, [1, 1]), (5, [3])] ∧ 2 ≤ c ∧ Below w.heap.size w w' := by
  go_enter Try.func36, Try.ntmps36
  go_wp2
  go_ret
  exact ⟨_, _, rfl, RB_lit2 rfl (Blk.newAt 47 _ (by simp)) (RI_lit' (t := 3) [1, 1] _ rfl (((Blk.new w _ _).alloc _).alloc _) rfl) rfl (Nat.le_refl _) (RI_lit' (t := 3) [3] _ rfl ((Blk.newAt _ _ (by simp)).alloc _) rfl) rfl (Nat.le_refl _), by decide, balloc (balloc (balloc (Below.refl _ _) _) _) _⟩

theorem nm1 : delaySpec [1, 3, -1] 1 = ([0, 1, 3], 0) := by decide +kernel
theorem nm2 : delaySpec [1, 3, -1] (-2) = ([-1, 0, 0], 0) := by decide +kernel
theorem nm3 : gapsSpec [0, 0, 1, 0] = ([(0, 2), (3, 1)], 0) := by decide +kernel
theorem nm4 : winSpec [(0, [1, 1]), (5, [3])] 1 5 = ([1, 0, 0, 0, 3], 0) := by decide +kernel
theorem nm5 : putS [(0, [1, 1]), (5, [3])] (2, [-1, 3]) = ([(0, [1, 1, -1, 3]), (5, [3])], 0) := by decide +kernel
theorem nm6 : putS [(0, [1, 1, -1, 3]), (5, [3])] (3, [0, -3]) = ([(0, [1, 1, -1, 3, -3, 3])], 0) := by decide +kernel
theorem nm7 : putS [(0, [1, 1, -1, 3]), (5, [3])] (3, [1]) = ([], 14) := by decide +kernel
set_option maxRecDepth 100000 in
set_option maxHeartbeats 16000000 in
theorem alive14 (w : World) : Calls Try.prog 30 #[] w fun e w' => e = .returned (.bool true) ∧ Below w.heap.size w w' := by
  go_enter Try.func30, Try.ntmps30
  have hB0 := Below.refl w.heap.size w
  have h1 := fun A c w hx => alignDelay_any A c [1, 3, -1] 1 w hx (by simp)
  rw [nm1] at h1
  have hM1 := balloc hB0 (.cells #[.int .i64 1, .int .i64 3, .int .i64 (-1)] 3)
  clear hB0
  go_wp2_with fail
  refine (h1 _ _ _ (RI_lit' (t := 3) [1, 3, -1] _ rfl (Blk.newAt _ _ (by simp)) rfl)).mono ?_
  rintro _ w1 ⟨A1, c1, rfl, ho1, hb1⟩
  have rr1 := own_RI ho1
  clear ho1
  have hB1 := bstep hM1 hb1
  clear hb1 hM1
  clear h1
  have rA := rr1
  clear rr1
  have h2 := fun A c w hx => alignDelay_any A c [1, 3, -1] (-2) w hx (by simp)
  rw [nm2] at h2
  replace rA := rA.keep (balloc (Below.refl _ _) (.cells #[.int .i64 1, .int .i64 3, .int .i64 (-1)] 3))
  have hM2 := balloc hB1 (.cells #[.int .i64 1, .int .i64 3, .int .i64 (-1)] 3)
  clear hB1
  go_wp2_with fail
  refine (h2 _ _ _ (RI_lit' (t := 3) [1, 3, -1] _ rfl (Blk.newAt _ _ (by simp)) rfl)).mono ?_
  rintro _ w2 ⟨A2, c2, rfl, ho2, hb2⟩
  have rr2 := own_RI ho2
  clear ho2
  replace rA := rA.keep hb2
  have hB2 := bstep hM2 hb2
  clear hb2 hM2
  clear h2
  have rB := rr2
  clear rr2
  have h3 := fun A c w hx => alignGaps_any A c [0, 0, 1, 0] w hx (by simp)
  rw [nm3] at h3
  replace rA := rA.keep (balloc (Below.refl _ _) (.cells #[.int .i64 0, .int .i64 0, .int .i64 1, .int .i64 0] 3))
  replace rB := rB.keep (balloc (Below.refl _ _) (.cells #[.int .i64 0, .int .i64 0, .int .i64 1, .int .i64 0] 3))
  have hM3 := balloc hB2 (.cells #[.int .i64 0, .int .i64 0, .int .i64 1, .int .i64 0] 3)
  clear hB2
  go_wp2_with fail
  refine (h3 _ _ _ (RI_lit' (t := 3) [0, 0, 1, 0] _ rfl (Blk.newAt _ _ (by simp)) rfl)).mono ?_
  rintro _ w3 ⟨A3, c3, rfl, ho3, hb3⟩
  have rr3 := own_RL ho3
  clear ho3
  replace rA := rA.keep hb3
  replace rB := rB.keep hb3
  have hB3 := bstep hM3 hb3
  clear hb3 hM3
  clear h3
  have rC := rr3
  clear rr3
  have h4 := fun A c w hx => alignWindow_any A c [(0, [1, 1]), (5, [3])] 1 5 w hx (by simp) (by decide)
  rw [nm4] at h4
  go_wp2_with fail
  refine (given14 _).mono ?_
  rintro _ w4 ⟨A4, c4, rfl, r4, hc4, hb4⟩
  replace rA := rA.keep hb4
  replace rB := rB.keep hb4
  replace rC := rC.keep hb4
  have hB4 := bstep hB3 hb4
  clear hb4 hB3
  have rG := r4
  clear r4
  go_wp2_with fail
  refine (h4 _ _ _ rG).mono ?_
  rintro _ w5 ⟨A5, c5, rfl, ho5, hb5⟩
  have rr5 := own_RI ho5
  clear ho5
  replace rA := rA.keep hb5
  replace rB := rB.keep hb5
  replace rC := rC.keep hb5
  replace rG := rG.keep hb5
  have hB5 := bstep hB4 hb5
  clear hb5 hB4
  clear h4
  have rD := rr5
  clear rr5
  clear rG
  go_wp2_with fail
  refine (given14 _).mono ?_
  rintro _ w6 ⟨A6, c6, rfl, r6, hc6, hb6⟩
  replace rA := rA.keep hb6
  replace rB := rB.keep hb6
  replace rC := rC.keep hb6
  replace rD := rD.keep hb6
  have hB6 := bstep hB5 hb6
  clear hb6 hB5
  have rG := r6
  clear r6
  have h5 := fun A c B d w hx hc hy => alignPut_any A c [(0, [1, 1]), (5, [3])] (2, [-1, 3]) B d w hx hc hy (by simp) (by decide) (by decide)
  rw [nm5] at h5
  replace rA := rA.keep (balloc (Below.refl _ _) (.cells #[.int .i64 (-1), .int .i64 3] 3))
  replace rB := rB.keep (balloc (Below.refl _ _) (.cells #[.int .i64 (-1), .int .i64 3] 3))
  replace rC := rC.keep (balloc (Below.refl _ _) (.cells #[.int .i64 (-1), .int .i64 3] 3))
  replace rD := rD.keep (balloc (Below.refl _ _) (.cells #[.int .i64 (-1), .int .i64 3] 3))
  replace rG := rG.keep (balloc (Below.refl _ _) (.cells #[.int .i64 (-1), .int .i64 3] 3))
  have hM4 := balloc hB6 (.cells #[.int .i64 (-1), .int .i64 3] 3)
  clear hB6
  go_wp2_with fail
  refine (h5 _ _ _ _ _ rG hc6 (RI_lit' (t := 3) [-1, 3] _ rfl (Blk.newAt _ _ (by simp)) rfl)).mono ?_
  rintro _ w7 ⟨A7, c7, rfl, ro7, hc7, hb7⟩
  have rr7 := ro7.rb
  clear ro7
  replace rA := rA.keep hb7
  replace rB := rB.keep hb7
  replace rC := rC.keep hb7
  replace rD := rD.keep hb7
  replace rG := rG.keep hb7
  have hB7 := bstep hM4 hb7
  clear hb7 hM4
  clear h5
  have rR := rr7
  clear rr7
  clear rG
  have h6 := fun A c B d w hx hc hy => alignPut_any A c [(0, [1, 1, -1, 3]), (5, [3])] (3, [0, -3]) B d w hx hc hy (by simp) (by decide) (by decide)
  rw [nm6] at h6
  replace rA := rA.keep (balloc (Below.refl _ _) (.cells #[.int .i64 0, .int .i64 (-3)] 3))
  replace rB := rB.keep (balloc (Below.refl _ _) (.cells #[.int .i64 0, .int .i64 (-3)] 3))
  replace rC := rC.keep (balloc (Below.refl _ _) (.cells #[.int .i64 0, .int .i64 (-3)] 3))
  replace rD := rD.keep (balloc (Below.refl _ _) (.cells #[.int .i64 0, .int .i64 (-3)] 3))
  replace rR := rR.keep (balloc (Below.refl _ _) (.cells #[.int .i64 0, .int .i64 (-3)] 3))
  have hM5 := balloc hB7 (.cells #[.int .i64 0, .int .i64 (-3)] 3)
  clear hB7
  go_wp2_with fail
  refine (h6 _ _ _ _ _ rR hc7 (RI_lit' (t := 3) [0, -3] _ rfl (Blk.newAt _ _ (by simp)) rfl)).mono ?_
  rintro _ w8 ⟨A8, c8, rfl, ro8, hc8, hb8⟩
  have rr8 := ro8.rb
  clear ro8
  replace rA := rA.keep hb8
  replace rB := rB.keep hb8
  replace rC := rC.keep hb8
  replace rD := rD.keep hb8
  replace rR := rR.keep hb8
  have hB8 := bstep hM5 hb8
  clear hb8 hM5
  clear h6
  have rS := rr8
  clear rr8
  have h7 := fun A c B d w hx hc hy => alignPut_any A c [(0, [1, 1, -1, 3]), (5, [3])] (3, [1]) B d w hx hc hy (by simp) (by decide) (by decide)
  rw [nm7] at h7
  replace rA := rA.keep (balloc (Below.refl _ _) (.cells #[.int .i64 1] 3))
  replace rB := rB.keep (balloc (Below.refl _ _) (.cells #[.int .i64 1] 3))
  replace rC := rC.keep (balloc (Below.refl _ _) (.cells #[.int .i64 1] 3))
  replace rD := rD.keep (balloc (Below.refl _ _) (.cells #[.int .i64 1] 3))
  replace rR := rR.keep (balloc (Below.refl _ _) (.cells #[.int .i64 1] 3))
  replace rS := rS.keep (balloc (Below.refl _ _) (.cells #[.int .i64 1] 3))
  have hM6 := balloc hB8 (.cells #[.int .i64 1] 3)
  clear hB8
  go_wp2_with fail
  refine (h7 _ _ _ _ _ rR hc7 (RI_lit' (t := 3) [1] _ rfl (Blk.newAt _ _ (by simp)) rfl)).mono ?_
  rintro _ w9 ⟨A9, c9, rfl, ro9, hc9, hb9⟩
  have rr9 := ro9.rb
  clear ro9
  replace rA := rA.keep hb9
  replace rB := rB.keep hb9
  replace rC := rC.keep hb9
  replace rD := rD.keep hb9
  replace rR := rR.keep hb9
  replace rS := rS.keep hb9
  have hB9 := bstep hM6 hb9
  clear hb9 hM6
  clear h7
  replace rA := rA.keep (balloc (Below.refl _ _) (.cells #[.int .i64 0, .int .i64 1, .int .i64 3] 3))
  replace rB := rB.keep (balloc (Below.refl _ _) (.cells #[.int .i64 0, .int .i64 1, .int .i64 3] 3))
  replace rC := rC.keep (balloc (Below.refl _ _) (.cells #[.int .i64 0, .int .i64 1, .int .i64 3] 3))
  replace rD := rD.keep (balloc (Below.refl _ _) (.cells #[.int .i64 0, .int .i64 1, .int .i64 3] 3))
  replace rR := rR.keep (balloc (Below.refl _ _) (.cells #[.int .i64 0, .int .i64 1, .int .i64 3] 3))
  replace rS := rS.keep (balloc (Below.refl _ _) (.cells #[.int .i64 0, .int .i64 1, .int .i64 3] 3))
  have hM7 := balloc hB9 (.cells #[.int .i64 0, .int .i64 1, .int .i64 3] 3)
  clear hB9
  go_wp2_with fail
  refine (low_of (same13_any _ _ _ _ [0, 1, 3] [0, 1, 3] _ rA (RI_lit' (t := 3) [0, 1, 3] _ rfl (Blk.newAt _ _ (by simp)) rfl) (by decide) (by decide))).mono ?_
  rintro _ w10 ⟨rfl, hb10⟩
  replace rA := rA.keep hb10
  replace rB := rB.keep hb10
  replace rC := rC.keep hb10
  replace rD := rD.keep hb10
  replace rR := rR.keep hb10
  replace rS := rS.keep hb10
  have hB10 := bstep hM7 hb10
  clear hb10 hM7
  clear rA
  replace rB := rB.keep (balloc (Below.refl _ _) (.cells #[.int .i64 (-1), .int .i64 0, .int .i64 0] 3))
  replace rC := rC.keep (balloc (Below.refl _ _) (.cells #[.int .i64 (-1), .int .i64 0, .int .i64 0] 3))
  replace rD := rD.keep (balloc (Below.refl _ _) (.cells #[.int .i64 (-1), .int .i64 0, .int .i64 0] 3))
  replace rR := rR.keep (balloc (Below.refl _ _) (.cells #[.int .i64 (-1), .int .i64 0, .int .i64 0] 3))
  replace rS := rS.keep (balloc (Below.refl _ _) (.cells #[.int .i64 (-1), .int .i64 0, .int .i64 0] 3))
  have hM8 := balloc hB10 (.cells #[.int .i64 (-1), .int .i64 0, .int .i64 0] 3)
  clear hB10
  go_wp2_with fail
  refine (low_of (same13_any _ _ _ _ [-1, 0, 0] [-1, 0, 0] _ rB (RI_lit' (t := 3) [-1, 0, 0] _ rfl (Blk.newAt _ _ (by simp)) rfl) (by decide) (by decide))).mono ?_
  rintro _ w11 ⟨rfl, hb11⟩
  replace rB := rB.keep hb11
  replace rC := rC.keep hb11
  replace rD := rD.keep hb11
  replace rR := rR.keep hb11
  replace rS := rS.keep hb11
  have hB11 := bstep hM8 hb11
  clear hb11 hM8
  clear rB
  replace rC := rC.keep (balloc (Below.refl _ _) (.cells #[.int .i64 0, .int .i64 2, .int .i64 3, .int .i64 1] 69))
  replace rD := rD.keep (balloc (Below.refl _ _) (.cells #[.int .i64 0, .int .i64 2, .int .i64 3, .int .i64 1] 69))
  replace rR := rR.keep (balloc (Below.refl _ _) (.cells #[.int .i64 0, .int .i64 2, .int .i64 3, .int .i64 1] 69))
  replace rS := rS.keep (balloc (Below.refl _ _) (.cells #[.int .i64 0, .int .i64 2, .int .i64 3, .int .i64 1] 69))
  have hM9 := balloc hB11 (.cells #[.int .i64 0, .int .i64 2, .int .i64 3, .int .i64 1] 69)
  clear hB11
  go_wp2_with fail
  refine (low_of (sameGaps_any _ _ _ _ [(0, 2), (3, 1)] [(0, 2), (3, 1)] _ rC (RL_lit [(0, 2), (3, 1)] _ (Blk.newAt 69 _ (by simp)) rfl) (by decide) (by decide))).mono ?_
  rintro _ w12 ⟨rfl, hb12⟩
  replace rC := rC.keep hb12
  replace rD := rD.keep hb12
  replace rR := rR.keep hb12
  replace rS := rS.keep hb12
  have hB12 := bstep hM9 hb12
  clear hb12 hM9
  clear rC
  replace rD := rD.keep (balloc (Below.refl _ _) (.cells #[.int .i64 1, .int .i64 0, .int .i64 0, .int .i64 0, .int .i64 3] 3))
  replace rR := rR.keep (balloc (Below.refl _ _) (.cells #[.int .i64 1, .int .i64 0, .int .i64 0, .int .i64 0, .int .i64 3] 3))
  replace rS := rS.keep (balloc (Below.refl _ _) (.cells #[.int .i64 1, .int .i64 0, .int .i64 0, .int .i64 0, .int .i64 3] 3))
  have hM10 := balloc hB12 (.cells #[.int .i64 1, .int .i64 0, .int .i64 0, .int .i64 0, .int .i64 3] 3)
  clear hB12
  go_wp2_with fail
  refine (low_of (same13_any _ _ _ _ [1, 0, 0, 0, 3] [1, 0, 0, 0, 3] _ rD (RI_lit' (t := 3) [1, 0, 0, 0, 3] _ rfl (Blk.newAt _ _ (by simp)) rfl) (by decide) (by decide))).mono ?_
  rintro _ w13 ⟨rfl, hb13⟩
  replace rD := rD.keep hb13
  replace rR := rR.keep hb13
  replace rS := rS.keep hb13
  have hB13 := bstep hM10 hb13
  clear hb13 hM10
  clear rD
  replace rR := rR.keep (balloc (Below.refl _ _) (.cells #[.int .i64 1, .int .i64 1, .int .i64 (-1), .int .i64 3] 3))
  replace rS := rS.keep (balloc (Below.refl _ _) (.cells #[.int .i64 1, .int .i64 1, .int .i64 (-1), .int .i64 3] 3))
  have hM11 := balloc hB13 (.cells #[.int .i64 1, .int .i64 1, .int .i64 (-1), .int .i64 3] 3)
  clear hB13
  replace rR := rR.keep (balloc (Below.refl _ _) (.cells #[.int .i64 3] 3))
  replace rS := rS.keep (balloc (Below.refl _ _) (.cells #[.int .i64 3] 3))
  have hM12 := balloc hM11 (.cells #[.int .i64 3] 3)
  clear hM11
  replace rR := rR.keep (balloc (Below.refl _ _) (.cells #[.int .i64 0, .slice (some ⟨w13.heap.size, 0, none⟩) 4 4, .int .i64 5, .slice (some ⟨w13.heap.size + 1, 0, none⟩) 1 1] 47))
  replace rS := rS.keep (balloc (Below.refl _ _) (.cells #[.int .i64 0, .slice (some ⟨w13.heap.size, 0, none⟩) 4 4, .int .i64 5, .slice (some ⟨w13.heap.size + 1, 0, none⟩) 1 1] 47))
  have hM13 := balloc hM12 (.cells #[.int .i64 0, .slice (some ⟨w13.heap.size, 0, none⟩) 4 4, .int .i64 5, .slice (some ⟨w13.heap.size + 1, 0, none⟩) 1 1] 47)
  clear hM12
  go_wp2_with fail
  refine (low_of (same14_any _ _ _ _ [(0, [1, 1, -1, 3]), (5, [3])] [(0, [1, 1, -1, 3]), (5, [3])] _ rR (RB_lit2 rfl (Blk.newAt 47 _ (by simp)) (RI_lit' (t := 3) [1, 1, -1, 3] _ rfl (((Blk.newAt _ _ (by simp)).alloc _).alloc _) rfl) rfl (Nat.le_refl _) (RI_lit' (t := 3) [3] _ rfl ((Blk.newAt _ _ (by simp)).alloc _) rfl) rfl (Nat.le_refl _)) (by decide) (by decide) (by decide) (by decide))).mono ?_
  rintro _ w14 ⟨rfl, hb14⟩
  replace rR := rR.keep hb14
  replace rS := rS.keep hb14
  have hB14 := bstep hM13 hb14
  clear hb14 hM13
  clear rR
  replace rS := rS.keep (balloc (Below.refl _ _) (.cells #[.int .i64 1, .int .i64 1, .int .i64 (-1), .int .i64 3, .int .i64 (-3), .int .i64 3] 3))
  have hM14 := balloc hB14 (.cells #[.int .i64 1, .int .i64 1, .int .i64 (-1), .int .i64 3, .int .i64 (-3), .int .i64 3] 3)
  clear hB14
  replace rS := rS.keep (balloc (Below.refl _ _) (.cells #[.int .i64 0, .slice (some ⟨w14.heap.size, 0, none⟩) 6 6] 47))
  have hM15 := balloc hM14 (.cells #[.int .i64 0, .slice (some ⟨w14.heap.size, 0, none⟩) 6 6] 47)
  clear hM14
  go_wp2_with fail
  refine (low_of (same14_any _ _ _ _ [(0, [1, 1, -1, 3, -3, 3])] [(0, [1, 1, -1, 3, -3, 3])] _ rS (RB_lit1 rfl (Blk.newAt 47 _ (by simp)) (RI_lit' (t := 3) [1, 1, -1, 3, -3, 3] _ rfl ((Blk.newAt _ _ (by simp)).alloc _) rfl) rfl (Nat.le_refl _)) (by decide) (by decide) (by decide) (by decide))).mono ?_
  rintro _ w15 ⟨rfl, hb15⟩
  replace rS := rS.keep hb15
  have hB15 := bstep hM15 hb15
  clear hb15 hM15
  clear rS
  go_wp2
  go_ret
  exact ⟨by simp, hB15⟩
end Go.Proofs.Ytbejkfeloffccaa
