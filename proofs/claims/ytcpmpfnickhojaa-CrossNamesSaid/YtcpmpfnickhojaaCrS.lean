/-
  CrossNames: the walk.
-/
import Derived.Test.YtcpmpfnickhojaaCrR
import Derived.Test.YtcpmpfnickhojaaCrO
namespace Go.Proofs.Ytcpmpfnickhojaa
open Go.RowKit Num Dft
set_option linter.unusedVariables false
set_option linter.unusedSimpArgs false
namespace Crs
open Lol

theorem badL_len (x : Int) : (badL x).length = 64 := by unfold badL; rw [List.length_set, List.length_replicate]
set_option maxRecDepth 100000 in
set_option maxHeartbeats 8000000 in
theorem crossNames_walk (w : World) : Calls Try.prog 5 #[] w fun e w' => e = .returned (.bool true) ∧ Below w.heap.size w w' := by
  have m1 := mk33
  have m2 := mk257
  have m3 := mk65
  have m4 := mk64z
  have m5 := mk5L
  have hz5 : (zI 64)[5]? = some (.int .i64 0) := rfl
  have HF := Lib.hid lf1
  have HL := Lib.hid (spcL_len [3, 3, 3, -1])
  have H19 := fun A c w hx => spectrum_w A c [3, 3, 3, -1] w lf0 (by simp) hx
  generalize spcL [3, 3, 3, -1] = SF at *
  go_enter Try.func5, Try.ntmps5
  go_wp2_with fail
  refine (spec_e l33 33 List.length_replicate (by omega) _ _ _ (z_RI (Blk.newAt _ _ rfl))).mono ?_
  rintro _ w1 ⟨A1, c1, rfl, hb1⟩
  have hB1 := bstep (balloc (Below.refl _ _) _) hb1
  clear hb1
  go_wp2_with fail
  refine (spec_e l257 257 List.length_replicate (by omega) _ _ _ (z_RI (Blk.newAt _ _ rfl))).mono ?_
  rintro _ w2 ⟨A2, c2, rfl, hb2⟩
  have hB2 := bstep (balloc hB1 _) hb2
  clear hb2 hB1
  go_wp2_with fail
  refine (spec_e l2 1 rfl (by omega) _ _ _ (RI_lit' (t := 3) [2] _ rfl (Blk.newAt _ _ rfl) rfl)).mono ?_
  rintro _ w3 ⟨A3, c3, rfl, hb3⟩
  have hB3 := bstep (balloc hB2 _) hb3
  clear hb3 hB2
  go_wp2_with fail
  refine (spectrum_w none 0 [] _ (by decide) (by simp) RI.nil).mono ?_
  rintro _ w4 ⟨A4, c4, rfl, r4, hc4, hb4⟩
  have hB4 := bstep hB3 hb4
  clear hb4 hB3
  rw [spc_nil] at r4
  have rz := r4.ri
  clear r4
  obtain ⟨b4, o4, rfl, l4, _⟩ := rz.at2 (i := 0) (by rw [List.length_replicate]; omega)
  have hk1 : Blk (w4.alloc (.cells ((zI 64).setIfInBounds 5 (.int .i64 7681)) 2)) w4.heap.size 2 (badZ 7681) := Blk.new w4 2 ((zI 64).setIfInBounds 5 (.int .i64 7681))
  have hZ1 : Below w4.heap.size w4 (w4.alloc (.cells ((zI 64).setIfInBounds 5 (.int .i64 7681)) 2)) := balloc (Below.refl _ _) _
  go_wp2_with fail
  refine (prod_e lp1 64 64 List.length_replicate (badL_len _) (by omega) (by omega) _ _ _ _ _ (rz.keep hZ1) (bad_RI hk1)).mono ?_
  rintro _ w5 ⟨A5, c5, rfl, hb5⟩
  have hZ2 := bstep hZ1 hb5
  have hk2 := hk1.keep hb5
  clear hZ1 hk1 hb5
  have hc63 : (63 : Int) ≤ c4 := by omega
  have hc63' : 63 ≤ c4 := by omega
  go_wp2_with fail
  refine (prod_e lp2 63 64 List.length_replicate List.length_replicate (by omega) (by omega) _ _ _ _ _ (RI_take (rz.keep hZ2) (by omega)) (rz.keep hZ2)).mono ?_
  rintro _ w6 ⟨A6, c6, rfl, hb6⟩
  have hZ3 := bstep hZ2 hb6
  have hk3 := hk2.keep hb6
  clear hZ2 hk2 hb6 hc63 hc63'
  have q5 : w6.cell? ⟨w4.heap.size, 5, none⟩ = some (.int .i64 7681) := hk3.cell 5
  have q6 := hk3.frozen 5
  have q7 := hk3.lt
  have hk4 : Blk (w6.setCell ⟨w4.heap.size, 5, none⟩ (.int .i64 (-1))) w4.heap.size 2 (badZ (-1)) := by
    have := hk3.put 5 (.int .i64 (-1))
    rw [bad_put] at this
    exact this
  have hZ4 : Below w4.heap.size w4 (w6.setCell ⟨w4.heap.size, 5, none⟩ (.int .i64 (-1))) := hZ3.setCell (p := ⟨w4.heap.size, 5, none⟩) (Nat.le_refl _) _
  go_wp2_with fail
  refine (val_e lv1 64 (badL_len _) (by omega) _ _ _ (bad_RI hk4)).mono ?_
  rintro _ w7 ⟨A7, c7, rfl, hb7⟩
  have hZ7 := bstep hZ4 hb7
  replace rz := rz.keep hZ7
  have hB7 := hB4.trans (hZ7.mono hB4.size)
  clear hZ3 hZ4 hZ7 hk3 hk4 hb7 q5 q6 q7 hB4 hz5
  go_wp2_with fail
  refine (val_e lv2 0 rfl (by omega) none 0 _ RI.nil).mono ?_
  rintro _ w8 ⟨A8, c8, rfl, hb8⟩
  have hB8 := bstep hB7 hb8
  replace rz := rz.keep hb8
  clear hB7 hb8
  go_wp2_with fail
  refine (pcs_r lc1 2 0 rfl rfl (by omega) _ _ (by omega) _ (RI_lit' (t := 3) [1, 4] _ rfl (Blk.newAt _ _ rfl) rfl)).mono ?_
  rintro _ w9 ⟨A9, c9, rfl, _, hb9⟩
  have hB9 := bstep (balloc hB8 _) hb9
  replace rz := (rz.keep (balloc (Below.refl _ _) _)).keep hb9
  clear hB8 hb9
  go_wp2_with fail
  refine (pcs_r lc2 0 0 rfl rfl (by omega) none 0 (by omega) _ RI.nil).mono ?_
  rintro _ w10 ⟨A10, c10, rfl, _, hb10⟩
  have hB10 := bstep hB9 hb10
  replace rz := rz.keep hb10
  clear hB9 hb10
  go_wp2_with fail
  refine (pcs_r lc3 65 3 List.length_replicate rfl (by omega) _ _ (by omega) _ (z_RI (Blk.newAt _ _ rfl))).mono ?_
  rintro _ w11 ⟨A11, c11, rfl, r11, hb11⟩
  have hB11 := bstep (balloc hB10 _) hb11
  replace rz := (rz.keep (balloc (Below.refl _ _) _)).keep hb11
  clear hB10 hb11
  go_wp2_with fail
  refine (of_r lo1 0 0 0 rfl rfl rfl (by omega) (by omega) none none 0 0 (by omega) (by omega) _ RI.nil RI.nil).mono ?_
  rintro _ w12 ⟨A12, c12, rfl, _, hb12⟩
  have hB12 := bstep hB11 hb12
  replace rz := rz.keep hb12
  replace r11 := r11.keep hb12
  clear hB11 hb12
  go_wp2_with fail
  refine (of_r lo2 1 0 0 rfl rfl rfl (by omega) (by omega) _ none _ 0 (by omega) (by omega) _ (RI_lit' (t := 3) [2] _ rfl (Blk.newAt _ _ rfl) rfl) RI.nil).mono ?_
  rintro _ w13 ⟨A13, c13, rfl, _, hb13⟩
  have hB13 := bstep (balloc hB12 _) hb13
  replace rz := (rz.keep (balloc (Below.refl _ _) _)).keep hb13
  replace r11 := (r11.keep (balloc (Below.refl _ _) _)).keep hb13
  clear hB12 hb13
  go_wp2_with fail
  refine (of_r lo3 0 257 0 rfl List.length_replicate rfl (by omega) (by omega) none _ 0 _ (by omega) (by omega) _ RI.nil (z_RI (Blk.newAt _ _ rfl))).mono ?_
  rintro _ w14 ⟨A14, c14, rfl, _, hb14⟩
  have hB14 := bstep (balloc hB13 _) hb14
  replace rz := (rz.keep (balloc (Below.refl _ _) _)).keep hb14
  replace r11 := (r11.keep (balloc (Below.refl _ _) _)).keep hb14
  clear hB13 hb14
  go_wp2_with fail
  refine (of_r lo4 0 0 5 rfl rfl rfl (by omega) (by omega) none none 0 0 (by omega) (by omega) _ RI.nil RI.nil).mono ?_
  rintro _ w15 ⟨A15, c15, rfl, r15, hb15⟩
  have hB15 := bstep hB14 hb15
  replace rz := rz.keep hb15
  replace r11 := r11.keep hb15
  clear hB14 hb15
  go_wp2_with fail
  refine (H19 _ _ _ (RI_lit' (t := 3) [3, 3, 3, -1] _ rfl (Blk.newAt _ _ rfl) rfl)).mono ?_
  rintro _ w16 ⟨A16, c16, rfl, r16', _, hb16⟩
  have r16 := r16'.ri
  have hB16 := bstep (balloc hB15 _) hb16
  replace rz := (rz.keep (balloc (Below.refl _ _) _)).keep hb16
  replace r11 := (r11.keep (balloc (Below.refl _ _) _)).keep hb16
  replace r15 := (r15.keep (balloc (Below.refl _ _) _)).keep hb16
  clear hB15 hb16 H19 r16'
  go_wp2_with fail
  refine (alive17 _).mono ?_
  rintro _ w17 ⟨rfl, hb17⟩
  have hB17 := bstep hB16 hb17
  replace rz := rz.keep hb17
  replace r11 := r11.keep hb17
  replace r15 := r15.keep hb17
  replace r16 := r16.keep hb17
  clear hB16 hb17
  go_wp2_with fail
  refine (same17_yes _ _ _ _ 64 64 (List.replicate 64 0) List.length_replicate List.length_replicate _ (rz.keep (balloc (Below.refl _ _) _)) (z_RI (Blk.newAt _ _ rfl)) (by omega)).mono ?_
  rintro _ w18 ⟨rfl, hb18⟩
  have hB18 := bstep (balloc hB17 _) hb18
  replace r11 := (r11.keep (balloc (Below.refl _ _) _)).keep hb18
  replace r15 := (r15.keep (balloc (Below.refl _ _) _)).keep hb18
  replace r16 := (r16.keep (balloc (Below.refl _ _) _)).keep hb18
  clear hB17 hb18 rz
  obtain ⟨b11, o11, Ap, cp, rfl, l11, h11, _, _⟩ := r11.at_ (i := 2) (by simp)
  have h11' : w18.cell? ⟨b11, o11 + 2, none⟩ = some (.slice Ap 1 cp) := h11
  obtain ⟨b16, o16, rfl, l16, h16⟩ := r16.at2 (i := 0) (by rw [HL.out]; omega)
  rw [HF.out, Nat.add_zero] at h16
  clear h11
  go_wp2_with fail
  refine (Lagc.same16_any _ _ _ 5 (List.replicate 5 (0, 0)) (List.replicate 5 (0, 0)) _ (r15.keep (balloc (Below.refl _ _) _)) (zL_RL (Blk.newAt _ _ rfl)) (by simp) (by simp)).mono ?_
  rintro _ w19 ⟨rfl, q19, rfl⟩
  rw [decide_eq_true rfl]
  go_wp2
  go_ret
  exact ⟨rfl, below_drewN (balloc hB18 _) _⟩
end Crs
end Go.Proofs.Ytcpmpfnickhojaa
