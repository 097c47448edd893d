/-
  The walk of LagNames. Printed by gen_lagnames.py.
-/
import Derived.Test.YtfmhliiljmcejaaLagL
import Derived.Test.YtfmhliiljmcejaaLagX
import Derived.Test.YtfmhliiljmcejaaLagU
namespace Go.Proofs.Ytfmhliiljmcejaa
open Go.RowKit
set_option linter.unusedVariables false

theorem RL_lit2 {W : World} {A : Option Addr} {g : Nat} {t : TypeId} (l : List (Int × Int)) (cs : Array Value) (hA : A = some ⟨g, 0, none⟩) (h : Blk W g t cs) (hc : cs = (l.flatMap encP).toArray) : RL W A l := by
  subst hA; subst hc; exact blk_RL h
theorem zeros257 : ofSpec [] (List.replicate 257 0) 0 = ([], 4) := by decide +kernel
theorem zeros513 : lagErr (List.replicate 513 (0, 0)) = 4 := by decide +kernel
theorem zeros511 : lagErr (List.replicate 511 (0, 0)) = 0 := by decide +kernel

def badsW (w : World) : World := (World.alloc (World.alloc (World.alloc (World.alloc (World.alloc (World.alloc (World.alloc (World.alloc (World.alloc w (.cells #[.int .i64 0, .int .i64 0, .int .i64 0, .int .i64 0] 39)) (.cells #[.int .i64 1, .int .i64 0] 39)) (.cells #[.int .i64 1, .int .i64 (-1)] 39)) (.cells #[.int .i64 1, .int .i64 257] 39)) (.cells #[.int .i64 10, .int .i64 1] 39)) (.cells #[.int .i64 (-11), .int .i64 1] 39)) (.cells #[.int .i64 1, .int .i64 2] 39)) (.cells #[.int .i64 0, .int .i64 1] 39)) (.cells #[.slice none 0 0, .slice (some ⟨w.heap.size, 0, none⟩) 2 2, .slice (some ⟨w.heap.size + 1, 0, none⟩) 1 1, .slice (some ⟨w.heap.size + 2, 0, none⟩) 1 1, .slice (some ⟨w.heap.size + 3, 0, none⟩) 1 1, .slice (some ⟨w.heap.size + 4, 0, none⟩) 1 1, .slice (some ⟨w.heap.size + 5, 0, none⟩) 1 1, .slice (some ⟨w.heap.size + 6, 0, none⟩) 1 1, .slice (some ⟨w.heap.size + 7, 0, none⟩) 1 1] 24))
theorem badsW_below (w : World) : Below w.heap.size w (badsW w) := balloc (balloc (balloc (balloc (balloc (balloc (balloc (balloc (balloc (Below.refl _ _) _) _) _) _) _) _) _) _) _
theorem badsW_at (w : World) (i : Nat) (hi : i < 9) : ∃ A c l, (badsW w).cell? ⟨w.heap.size + 8, i, none⟩ = some (.slice A l.length c) ∧ RL (badsW w) A l ∧ lagErr l = 8 ∧ totS l = (0, 0) ∧ l.length ≤ 2 := by
  have hB : Blk (badsW w) (w.heap.size + 8) 24 #[.slice none 0 0, .slice (some ⟨w.heap.size, 0, none⟩) 2 2, .slice (some ⟨w.heap.size + 1, 0, none⟩) 1 1, .slice (some ⟨w.heap.size + 2, 0, none⟩) 1 1, .slice (some ⟨w.heap.size + 3, 0, none⟩) 1 1, .slice (some ⟨w.heap.size + 4, 0, none⟩) 1 1, .slice (some ⟨w.heap.size + 5, 0, none⟩) 1 1, .slice (some ⟨w.heap.size + 6, 0, none⟩) 1 1, .slice (some ⟨w.heap.size + 7, 0, none⟩) 1 1] := Blk.newAt _ _ (by simp)
  rcases (show i = 0 ∨ i = 1 ∨ i = 2 ∨ i = 3 ∨ i = 4 ∨ i = 5 ∨ i = 6 ∨ i = 7 ∨ i = 8 by omega) with rfl | rfl | rfl | rfl | rfl | rfl | rfl | rfl | rfl
  · exact ⟨none, 0, [], hB.cell 0, RL.nil, by decide, by decide, by decide⟩
  · exact ⟨_, _, [(0, 0), (0, 0)], hB.cell 1, RL_lit2 (t := 39) [(0, 0), (0, 0)] _ rfl (((((((((Blk.newAt _ _ (by simp)).alloc _).alloc _).alloc _).alloc _).alloc _).alloc _).alloc _).alloc _) rfl, by decide, by decide, by decide⟩
  · exact ⟨_, _, [(1, 0)], hB.cell 2, RL_lit2 (t := 39) [(1, 0)] _ rfl ((((((((Blk.newAt _ _ (by simp)).alloc _).alloc _).alloc _).alloc _).alloc _).alloc _).alloc _) rfl, by decide, by decide, by decide⟩
  · exact ⟨_, _, [(1, -1)], hB.cell 3, RL_lit2 (t := 39) [(1, -1)] _ rfl (((((((Blk.newAt _ _ (by simp)).alloc _).alloc _).alloc _).alloc _).alloc _).alloc _) rfl, by decide, by decide, by decide⟩
  · exact ⟨_, _, [(1, 257)], hB.cell 4, RL_lit2 (t := 39) [(1, 257)] _ rfl ((((((Blk.newAt _ _ (by simp)).alloc _).alloc _).alloc _).alloc _).alloc _) rfl, by decide, by decide, by decide⟩
  · exact ⟨_, _, [(10, 1)], hB.cell 5, RL_lit2 (t := 39) [(10, 1)] _ rfl (((((Blk.newAt _ _ (by simp)).alloc _).alloc _).alloc _).alloc _) rfl, by decide, by decide, by decide⟩
  · exact ⟨_, _, [(-11, 1)], hB.cell 6, RL_lit2 (t := 39) [(-11, 1)] _ rfl ((((Blk.newAt _ _ (by simp)).alloc _).alloc _).alloc _) rfl, by decide, by decide, by decide⟩
  · exact ⟨_, _, [(1, 2)], hB.cell 7, RL_lit2 (t := 39) [(1, 2)] _ rfl (((Blk.newAt _ _ (by simp)).alloc _).alloc _) rfl, by decide, by decide, by decide⟩
  · exact ⟨_, _, [(0, 1)], hB.cell 8, RL_lit2 (t := 39) [(0, 1)] _ rfl ((Blk.newAt _ _ (by simp)).alloc _) rfl, by decide, by decide, by decide⟩
theorem nm1 : ofSpec [2] [] 0 = ([], 8) := by decide +kernel
theorem nm2 : ofSpec [] [] 256 = ([], 2) := by decide +kernel
theorem nm3 : ofSpec [] [] (-1) = ([], 2) := by decide +kernel
theorem nm4 : addSpec [(9, 1)] [(0, 0), (0, 0), (0, 0)] = ([], 2) := by decide +kernel
theorem nm5 : addSpec [(9, 1)] [(-2304, 256)] = ([], 4) := by decide +kernel
theorem nm6 : addSpec [(9, 1)] [] = ([], 8) := by decide +kernel
theorem nm7 : peakSpec [(0, 0)] = (0, 18) := by decide +kernel
theorem nm8 : cutSpec [1] 2 = ([], [], 2) := by decide +kernel
theorem nm9 : cutSpec [1] (-1) = ([], [], 2) := by decide +kernel
theorem nm10 : cutSpec [5] 0 = ([], [], 8) := by decide +kernel
theorem nm11 : peakSpec [(2, 2), (0, 2), (0, 0), (0, 0), (2, 2)] = (-2, 0) := by decide +kernel
theorem nm12 : peakSpec [(-1, 1), (-3, 1), (-1, 1)] = (-1, 0) := by decide +kernel
theorem nm13 : cutSpec [1, -1, 3] 1 = ([1, 0, 0], [0, -1, 3], 0) := by decide +kernel
theorem nm14 : lagErr [(-2304, 256)] = 0 := by decide +kernel
set_option maxRecDepth 100000 in
set_option maxHeartbeats 16000000 in
theorem lagNames_walk (w : World) : Calls Try.prog 8 #[] w fun e w' => e = .returned (.bool true) ∧ Below w.heap.size w w' := by
  obtain ⟨i0, hi0, hz0, hz1, hz2⟩ := info_parts info_int
  obtain ⟨j0, hj0, hy0, hy1, hy2⟩ := info_parts info_lag
  have hmk1 := mk_row (P := Try.prog) 22 3 Try.underlying22 hi0 hz0 hz1 hz2 (encI .i64) (encI_len .i64) (by omega) 0 rfl 257 (by omega) (by omega)
  rw [show ((257 : Nat) : Int) = 257 from rfl] at hmk1
  have hmk513 := mk_row (P := Try.prog) 24 39 Try.underlying24 hj0 hy0 hy1 hy2 encP encP_len (by omega) (0, 0) rfl 513 (by omega) (by omega)
  rw [show ((513 : Nat) : Int) = 513 from rfl] at hmk513
  have hmk511 := mk_row (P := Try.prog) 24 39 Try.underlying24 hj0 hy0 hy1 hy2 encP encP_len (by omega) (0, 0) rfl 511 (by omega) (by omega)
  rw [show ((511 : Nat) : Int) = 511 from rfl] at hmk511
  clear hz1
  go_enter Try.func8, Try.ntmps8
  go_wp2
  go_loopg [2, 3, 4] 9 (fun gk i _ _ wr => ∃ k : Nat, k + gk = 9 ∧ i = .int .i64 k ∧ Below (badsW w).heap.size (badsW w) wr)
  case atStart => exact ⟨0, by omega, rfl, Below.refl _ _⟩
  case round =>
    obtain ⟨k, hk, rfl, hb⟩ := hrel
    have hk' : k ≤ 9 := by omega
    have HK := Lib.hid hk
    clear hk
    have hBw := badsW_below w
    have hs8 : w.heap.size + 1 + 1 + 1 + 1 + 1 + 1 + 1 + 1 < (badsW w).heap.size := by simp [badsW]
    by_cases hlt : k < 9
    · obtain ⟨A, c, l, hc, hr, he, ht, hll⟩ := badsW_at w k hlt
      have hc1 := (hb.cell (p := ⟨w.heap.size + 1 + 1 + 1 + 1 + 1 + 1 + 1 + 1, k, none⟩) hs8).trans hc
      have HE := Lib.hid (And.intro ht he)
      clear ht
      have hK := fun w hx => lagCheck_any A c l w hx (by omega)
      rw [he] at hK
      clear he
      go_wp2_with fail
      refine (lagTotal_at l (0, 0) 8 rfl HE.out.1 HE.out.2 (hr.keep hb) (by omega)).mono ?_
      rintro _ w2 ⟨rfl, hb2⟩
      have hB2 := bstep hb hb2
      have hs2 := hB2.size
      have hs9 : w.heap.size + 1 + 1 + 1 + 1 + 1 + 1 + 1 + 1 < w2.heap.size := by omega
      have hs10 : ¬ w.heap.size + 1 + 1 + 1 + 1 + 1 + 1 + 1 + 1 = w2.heap.size := by omega
      have hc2 := (hB2.cell (p := ⟨w.heap.size + 1 + 1 + 1 + 1 + 1 + 1 + 1 + 1, k, none⟩) hs8).trans hc
      clear hc1
      have hB3 := balloc hB2 (.cells #[.int .i64 0, .int .i64 0] 39)
      go_wp2_with fail
      refine (hK _ (hr.keep hB3)).mono ?_
      rintro _ w3 ⟨rfl, hb3⟩
      go_wp2
      go_roundg (gk - 1)
      case rel => exact ⟨k + 1, by have := HK.out; omega, by go_num, bstep hB3 hb3⟩
      case measure => have := HK.out; omega
    · have hB0 := bstep hBw hb
      clear hBw hb hs8 HK
      have hM1 := balloc hB0 (.cells #[.int .i64 9, .int .i64 1] 39)
      clear hB0
      have rOne : RL (World.alloc wr (.cells #[.int .i64 9, .int .i64 1] 39)) (some ⟨wr.heap.size, 0, none⟩) [(9, 1)] := RL_lit2 (t := 39) [(9, 1)] _ rfl (Blk.newAt _ _ (by simp)) rfl
      replace rOne := rOne.keep (balloc (Below.refl _ _) (.cells #[.int .i64 (-2304), .int .i64 256] 39))
      have hM2 := balloc hM1 (.cells #[.int .i64 (-2304), .int .i64 256] 39)
      clear hM1
      have rFull : RL (World.alloc (World.alloc wr (.cells #[.int .i64 9, .int .i64 1] 39)) (.cells #[.int .i64 (-2304), .int .i64 256] 39)) (some ⟨wr.heap.size + 1, 0, none⟩) [(-2304, 256)] := RL_lit2 (t := 39) [(-2304, 256)] _ rfl (Blk.newAt _ _ (by simp)) rfl
      replace rOne := rOne.keep (balloc (Below.refl _ _) (.cells #[.int .i64 2] 3))
      replace rFull := rFull.keep (balloc (Below.refl _ _) (.cells #[.int .i64 2] 3))
      have hM3 := balloc hM2 (.cells #[.int .i64 2] 3)
      clear hM2
      have h1 := fun A B c d w hx hy => lagOf_any A B c d [2] [] 0 w hx hy (by simp) (by simp)
      rw [nm1] at h1
      go_wp2_with fail
      refine (h1 _ _ _ _ _ (RI_lit' (t := 3) [2] _ rfl (Blk.newAt _ _ (by simp)) rfl) RI.nil).mono ?_
      rintro _ w1 ⟨A1, c1, rfl, ho1, hb1⟩
      clear ho1
      replace rOne := rOne.keep hb1
      replace rFull := rFull.keep hb1
      have hB1 := bstep hM3 hb1
      clear hb1 hM3
      clear h1
      replace rOne := rOne.keep (balloc (Below.refl _ _) (.cells ((List.replicate 257 (0 : Int)).flatMap (encI .i64)).toArray 3))
      replace rFull := rFull.keep (balloc (Below.refl _ _) (.cells ((List.replicate 257 (0 : Int)).flatMap (encI .i64)).toArray 3))
      have hM4 := balloc hB1 (.cells ((List.replicate 257 (0 : Int)).flatMap (encI .i64)).toArray 3)
      clear hB1
      have hz1 := fun A B c d w hx hy => lagOf_any A B c d [] (List.replicate 257 0) 0 w hx hy (by simp) (by simp)
      rw [zeros257] at hz1
      go_wp2_with fail
      refine (hz1 _ _ _ _ _ RI.nil (blk_RI (e := 3) (Blk.newAt _ _ (by simp)))).mono ?_
      rintro _ w2 ⟨A2, c2, rfl, ho2, hb2⟩
      clear ho2
      replace rOne := rOne.keep hb2
      replace rFull := rFull.keep hb2
      have hB2 := bstep hM4 hb2
      clear hb2 hM4
      clear hz1 hmk1
      have h2 := fun A B c d w hx hy => lagOf_any A B c d [] [] 256 w hx hy (by simp) (by simp)
      rw [nm2] at h2
      go_wp2_with fail
      refine (h2 _ _ _ _ _ RI.nil RI.nil).mono ?_
      rintro _ w3 ⟨A3, c3, rfl, ho3, hb3⟩
      clear ho3
      replace rOne := rOne.keep hb3
      replace rFull := rFull.keep hb3
      have hB3 := bstep hB2 hb3
      clear hb3 hB2
      clear h2
      have h3 := fun A B c d w hx hy => lagOf_any A B c d [] [] (-1) w hx hy (by simp) (by simp)
      rw [nm3] at h3
      go_wp2_with fail
      refine (h3 _ _ _ _ _ RI.nil RI.nil).mono ?_
      rintro _ w4 ⟨A4, c4, rfl, ho4, hb4⟩
      clear ho4
      replace rOne := rOne.keep hb4
      replace rFull := rFull.keep hb4
      have hB4 := bstep hB3 hb4
      clear hb4 hB3
      clear h3
      go_wp2_with fail
      refine (lagOf_at [] [] (lagCells [] [] 255) 511 0 rfl rfl (ofSpec_ok (m := 255) (by decide) (by decide) (by omega)) (lagCells_len _ _ _) RI.nil RI.nil (by decide) (by decide)).mono ?_
      rintro _ w5 ⟨A5, c5, rfl, ho5, hb5⟩
      clear ho5
      replace rOne := rOne.keep hb5
      replace rFull := rFull.keep hb5
      have hB5 := bstep hB4 hb5
      clear hb5 hB4
      replace rOne := rOne.keep (balloc (Below.refl _ _) (.cells #[.int .i64 0, .int .i64 0, .int .i64 0, .int .i64 0, .int .i64 0, .int .i64 0] 39))
      replace rFull := rFull.keep (balloc (Below.refl _ _) (.cells #[.int .i64 0, .int .i64 0, .int .i64 0, .int .i64 0, .int .i64 0, .int .i64 0] 39))
      have hM5 := balloc hB5 (.cells #[.int .i64 0, .int .i64 0, .int .i64 0, .int .i64 0, .int .i64 0, .int .i64 0] 39)
      clear hB5
      have h4 := fun A B c d w hx hy => lagAdd_any A B c d [(9, 1)] [(0, 0), (0, 0), (0, 0)] w hx hy (by simp) (by simp)
      rw [nm4] at h4
      go_wp2_with fail
      refine (h4 _ _ _ _ _ rOne (RL_lit2 (t := 39) [(0, 0), (0, 0), (0, 0)] _ rfl (Blk.newAt _ _ (by simp)) rfl)).mono ?_
      rintro _ w6 ⟨A6, c6, rfl, ho6, hb6⟩
      clear ho6
      replace rOne := rOne.keep hb6
      replace rFull := rFull.keep hb6
      have hB6 := bstep hM5 hb6
      clear hb6 hM5
      clear h4
      have h5 := fun A B c d w hx hy => lagAdd_any A B c d [(9, 1)] [(-2304, 256)] w hx hy (by simp) (by simp)
      rw [nm5] at h5
      go_wp2_with fail
      refine (h5 _ _ _ _ _ rOne rFull).mono ?_
      rintro _ w7 ⟨A7, c7, rfl, ho7, hb7⟩
      clear ho7
      replace rOne := rOne.keep hb7
      replace rFull := rFull.keep hb7
      have hB7 := bstep hB6 hb7
      clear hb7 hB6
      clear h5
      have h6 := fun A B c d w hx hy => lagAdd_any A B c d [(9, 1)] [] w hx hy (by simp) (by simp)
      rw [nm6] at h6
      go_wp2_with fail
      refine (h6 _ _ _ _ _ rOne RL.nil).mono ?_
      rintro _ w8 ⟨A8, c8, rfl, ho8, hb8⟩
      clear ho8
      replace rOne := rOne.keep hb8
      replace rFull := rFull.keep hb8
      have hB8 := bstep hB7 hb8
      clear hb8 hB7
      clear h6
      replace rOne := rOne.keep (balloc (Below.refl _ _) (.cells #[.int .i64 0, .int .i64 0] 39))
      replace rFull := rFull.keep (balloc (Below.refl _ _) (.cells #[.int .i64 0, .int .i64 0] 39))
      have hM6 := balloc hB8 (.cells #[.int .i64 0, .int .i64 0] 39)
      clear hB8
      have h7 := fun A c w hx => lagPeak_any A c [(0, 0)] w hx (by simp)
      rw [nm7] at h7
      go_wp2_with fail
      refine (h7 _ _ _ (RL_lit2 (t := 39) [(0, 0)] _ rfl (Blk.newAt _ _ (by simp)) rfl)).mono ?_
      rintro _ w9 ⟨rfl, hb9⟩
      replace rOne := rOne.keep hb9
      replace rFull := rFull.keep hb9
      have hB9 := bstep hM6 hb9
      clear hb9 hM6
      clear h7
      replace rOne := rOne.keep (balloc (Below.refl _ _) (.cells #[.int .i64 1] 3))
      replace rFull := rFull.keep (balloc (Below.refl _ _) (.cells #[.int .i64 1] 3))
      have hM7 := balloc hB9 (.cells #[.int .i64 1] 3)
      clear hB9
      have h8 := fun A w hx => lagCut_any A 1 [1] 2 w hx (by simp) (by decide)
      rw [nm8] at h8
      go_wp2_with fail
      refine (h8 _ _ (RI_lit' (t := 3) [1] _ rfl (Blk.newAt _ _ (by simp)) rfl)).mono ?_
      rintro _ w10 ⟨A10, c10, B10, d10, rfl, ra10, rb10, hb10⟩
      replace rOne := rOne.keep hb10
      replace rFull := rFull.keep hb10
      have hB10 := bstep hM7 hb10
      clear hb10 hM7
      clear h8
      clear ra10 rb10
      replace rOne := rOne.keep (balloc (Below.refl _ _) (.cells #[.int .i64 1] 3))
      replace rFull := rFull.keep (balloc (Below.refl _ _) (.cells #[.int .i64 1] 3))
      have hM8 := balloc hB10 (.cells #[.int .i64 1] 3)
      clear hB10
      have h9 := fun A w hx => lagCut_any A 1 [1] (-1) w hx (by simp) (by decide)
      rw [nm9] at h9
      go_wp2_with fail
      refine (h9 _ _ (RI_lit' (t := 3) [1] _ rfl (Blk.newAt _ _ (by simp)) rfl)).mono ?_
      rintro _ w11 ⟨A11, c11, B11, d11, rfl, ra11, rb11, hb11⟩
      replace rOne := rOne.keep hb11
      replace rFull := rFull.keep hb11
      have hB11 := bstep hM8 hb11
      clear hb11 hM8
      clear h9
      clear ra11 rb11
      replace rOne := rOne.keep (balloc (Below.refl _ _) (.cells #[.int .i64 5] 3))
      replace rFull := rFull.keep (balloc (Below.refl _ _) (.cells #[.int .i64 5] 3))
      have hM9 := balloc hB11 (.cells #[.int .i64 5] 3)
      clear hB11
      have h10 := fun A w hx => lagCut_any A 1 [5] 0 w hx (by simp) (by decide)
      rw [nm10] at h10
      go_wp2_with fail
      refine (h10 _ _ (RI_lit' (t := 3) [5] _ rfl (Blk.newAt _ _ (by simp)) rfl)).mono ?_
      rintro _ w12 ⟨A12, c12, B12, d12, rfl, ra12, rb12, hb12⟩
      replace rOne := rOne.keep hb12
      replace rFull := rFull.keep hb12
      have hB12 := bstep hM9 hb12
      clear hb12 hM9
      clear h10
      clear ra12 rb12
      replace rOne := rOne.keep (balloc (Below.refl _ _) (.cells ((List.replicate 513 ((0 : Int), (0 : Int))).flatMap encP).toArray 39))
      replace rFull := rFull.keep (balloc (Below.refl _ _) (.cells ((List.replicate 513 ((0 : Int), (0 : Int))).flatMap encP).toArray 39))
      have hM10 := balloc hB12 (.cells ((List.replicate 513 ((0 : Int), (0 : Int))).flatMap encP).toArray 39)
      clear hB12
      have hz513 := fun A c w hx => lagCheck_any A c (List.replicate 513 (0, 0)) w hx (by simp)
      rw [zeros513] at hz513
      go_wp2_with fail
      refine (hz513 _ _ _ (blk_RL (e := 39) (Blk.newAt _ _ (by simp)))).mono ?_
      rintro _ w13 ⟨rfl, hb13⟩
      replace rOne := rOne.keep hb13
      replace rFull := rFull.keep hb13
      have hB13 := bstep hM10 hb13
      clear hb13 hM10
      clear hz513 hmk513
      replace rOne := rOne.keep (balloc (Below.refl _ _) (.cells ((List.replicate 511 ((0 : Int), (0 : Int))).flatMap encP).toArray 39))
      replace rFull := rFull.keep (balloc (Below.refl _ _) (.cells ((List.replicate 511 ((0 : Int), (0 : Int))).flatMap encP).toArray 39))
      have hM11 := balloc hB13 (.cells ((List.replicate 511 ((0 : Int), (0 : Int))).flatMap encP).toArray 39)
      clear hB13
      have hz511 := fun A c w hx => lagCheck_any A c (List.replicate 511 (0, 0)) w hx (by simp)
      rw [zeros511] at hz511
      go_wp2_with fail
      refine (hz511 _ _ _ (blk_RL (e := 39) (Blk.newAt _ _ (by simp)))).mono ?_
      rintro _ w14 ⟨rfl, hb14⟩
      replace rOne := rOne.keep hb14
      replace rFull := rFull.keep hb14
      have hB14 := bstep hM11 hb14
      clear hb14 hM11
      clear hz511 hmk511
      replace rOne := rOne.keep (balloc (Below.refl _ _) (.cells #[.int .i64 2, .int .i64 2, .int .i64 0, .int .i64 2, .int .i64 0, .int .i64 0, .int .i64 0, .int .i64 0, .int .i64 2, .int .i64 2] 39))
      replace rFull := rFull.keep (balloc (Below.refl _ _) (.cells #[.int .i64 2, .int .i64 2, .int .i64 0, .int .i64 2, .int .i64 0, .int .i64 0, .int .i64 0, .int .i64 0, .int .i64 2, .int .i64 2] 39))
      have hM12 := balloc hB14 (.cells #[.int .i64 2, .int .i64 2, .int .i64 0, .int .i64 2, .int .i64 0, .int .i64 0, .int .i64 0, .int .i64 0, .int .i64 2, .int .i64 2] 39)
      clear hB14
      have h11 := fun A c w hx => lagPeak_any A c [(2, 2), (0, 2), (0, 0), (0, 0), (2, 2)] w hx (by simp)
      rw [nm11] at h11
      go_wp2_with fail
      refine (h11 _ _ _ (RL_lit2 (t := 39) [(2, 2), (0, 2), (0, 0), (0, 0), (2, 2)] _ rfl (Blk.newAt _ _ (by simp)) rfl)).mono ?_
      rintro _ w15 ⟨rfl, hb15⟩
      replace rOne := rOne.keep hb15
      replace rFull := rFull.keep hb15
      have hB15 := bstep hM12 hb15
      clear hb15 hM12
      clear h11
      replace rOne := rOne.keep (balloc (Below.refl _ _) (.cells #[.int .i64 (-1), .int .i64 1, .int .i64 (-3), .int .i64 1, .int .i64 (-1), .int .i64 1] 39))
      replace rFull := rFull.keep (balloc (Below.refl _ _) (.cells #[.int .i64 (-1), .int .i64 1, .int .i64 (-3), .int .i64 1, .int .i64 (-1), .int .i64 1] 39))
      have hM13 := balloc hB15 (.cells #[.int .i64 (-1), .int .i64 1, .int .i64 (-3), .int .i64 1, .int .i64 (-1), .int .i64 1] 39)
      clear hB15
      have h12 := fun A c w hx => lagPeak_any A c [(-1, 1), (-3, 1), (-1, 1)] w hx (by simp)
      rw [nm12] at h12
      go_wp2_with fail
      refine (h12 _ _ _ (RL_lit2 (t := 39) [(-1, 1), (-3, 1), (-1, 1)] _ rfl (Blk.newAt _ _ (by simp)) rfl)).mono ?_
      rintro _ w16 ⟨rfl, hb16⟩
      replace rOne := rOne.keep hb16
      replace rFull := rFull.keep hb16
      have hB16 := bstep hM13 hb16
      clear hb16 hM13
      clear h12
      replace rOne := rOne.keep (balloc (Below.refl _ _) (.cells #[.int .i64 1, .int .i64 (-1), .int .i64 3] 3))
      replace rFull := rFull.keep (balloc (Below.refl _ _) (.cells #[.int .i64 1, .int .i64 (-1), .int .i64 3] 3))
      have hM14 := balloc hB16 (.cells #[.int .i64 1, .int .i64 (-1), .int .i64 3] 3)
      clear hB16
      have h13 := fun A w hx => lagCut_any A 3 [1, -1, 3] 1 w hx (by simp) (by decide)
      rw [nm13] at h13
      go_wp2_with fail
      refine (h13 _ _ (RI_lit' (t := 3) [1, -1, 3] _ rfl (Blk.newAt _ _ (by simp)) rfl)).mono ?_
      rintro _ w17 ⟨A17, c17, B17, d17, rfl, ra17, rb17, hb17⟩
      replace rOne := rOne.keep hb17
      replace rFull := rFull.keep hb17
      have hB17 := bstep hM14 hb17
      clear hb17 hM14
      clear h13
      have rX := ra17
      clear ra17
      have rY := rb17
      clear rb17
      go_wp2_with fail
      refine (alive16 _).mono ?_
      rintro _ w18 ⟨rfl, hb18⟩
      replace rOne := rOne.keep hb18
      replace rFull := rFull.keep hb18
      replace rX := rX.keep hb18
      replace rY := rY.keep hb18
      have hB18 := bstep hB17 hb18
      clear hb18 hB17
      have h14 := fun A c w hx => lagCheck_any A c [(-2304, 256)] w hx (by simp)
      rw [nm14] at h14
      go_wp2_with fail
      refine (h14 _ _ _ rFull).mono ?_
      rintro _ w19 ⟨rfl, hb19⟩
      replace rOne := rOne.keep hb19
      replace rFull := rFull.keep hb19
      replace rX := rX.keep hb19
      replace rY := rY.keep hb19
      have hB19 := bstep hB18 hb19
      clear hb19 hB18
      go_wp2_with fail
      refine (same13_any _ _ _ _ [1, 0, 0] [1, 0, 0] _ (rX.keep (balloc (Below.refl _ _) _)) (RI_lit' (t := 3) [1, 0, 0] _ rfl (Blk.newAt _ _ (by simp)) rfl) (by decide) (by decide)).mono ?_
      rintro _ wy ⟨rfl, qy, rfl⟩
      have hBy := below_drewN (balloc hB19 (.cells #[.int .i64 1, .int .i64 0, .int .i64 0] 3)) qy
      have rY2 := rY.keep (below_drewN (balloc (Below.refl _ _) (.cells #[.int .i64 1, .int .i64 0, .int .i64 0] 3)) qy)
      go_wp2_with fail
      refine (same13_any _ _ _ _ [0, -1, 3] [0, -1, 3] _ (rY2.keep (balloc (Below.refl _ _) _)) (RI_lit' (t := 3) [0, -1, 3] _ rfl (Blk.newAt _ _ (by simp)) rfl) (by decide) (by decide)).mono ?_
      rintro _ wz ⟨rfl, qz, rfl⟩
      go_wp2
      go_ret
      exact ⟨by simp, below_drewN (balloc hBy _) qz⟩
end Go.Proofs.Ytfmhliiljmcejaa
