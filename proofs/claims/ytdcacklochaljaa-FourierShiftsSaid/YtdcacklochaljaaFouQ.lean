/-
  FourierShifts: the walk.
-/
import Derived.Test.YtdcacklochaljaaFouP
namespace Go.Proofs.Ytdcacklochaljaa
open Go.RowKit Num
set_option linter.unusedVariables false

set_option maxRecDepth 20000 in
set_option maxHeartbeats 1000000 in
theorem fourierShifts_walk (p : Int) (A : Option Addr) (c : Nat) (l : List Int) (d : Int) (w : World)
    (hp : -9223372036854775808 ≤ p ∧ p ≤ 9223372036854775807)
    (hx : RI .i64 w A l) (hlx : l.length ≤ 9223372036854775807) (_ : ∀ x ∈ l, (Lit.int .i64 x).wf = true) (hd : -9223372036854775808 ≤ d ∧ d ≤ 9223372036854775807) :
    Calls Try.prog 8 #[.int .i64 p, .slice A l.length c, .int .i64 d] w fun e w' => e = .returned (.bool true) ∧ Below w.heap.size w w' := by
  rcases fitB_cases p l l with ⟨e0, P, rfl, hF, _, _⟩ | e0
  · rcases (show d < -1000000 ∨ (-1000000 ≤ d ∧ 1000000 < d) ∨ (-1000000 ≤ d ∧ d ≤ 1000000) by omega) with hr | ⟨hr, hr'⟩ | ⟨hr, hr'⟩
    · have d1 : decide (d < -1000000) = true := decide_eq_true hr
      go_enter Try.func8, Try.ntmps8
      go_wp2_with fail
      refine (fit11_any _ _ _ _ _ _ _ _ hx hx hlx hlx hp.1 hp.2).mono ?_
      rintro _ w1 ⟨rfl, hb1⟩
      rw [e0]
      go_wp2_with fail
      refine (alive11_any _).mono ?_
      rintro _ w2 ⟨rfl, hb2⟩
      go_wp2
      go_ret
      exact ⟨rfl, bstep hb1 hb2⟩
    · have d1 : decide (d < -1000000) = false := decide_eq_false (by omega)
      have d2 : decide (1000000 < d) = true := decide_eq_true hr'
      go_enter Try.func8, Try.ntmps8
      go_wp2_with fail
      refine (fit11_any _ _ _ _ _ _ _ _ hx hx hlx hlx hp.1 hp.2).mono ?_
      rintro _ w1 ⟨rfl, hb1⟩
      rw [e0]
      go_wp2_with fail
      refine (alive11_any _).mono ?_
      rintro _ w2 ⟨rfl, hb2⟩
      go_wp2
      go_ret
      exact ⟨rfl, bstep hb1 hb2⟩
    · have d1 : decide (d < -1000000) = false := decide_eq_false (by omega)
      have d2 : decide (1000000 < d) = false := decide_eq_false (by omega)
      have h1 := hF.l1
      have h2 := hF.l64
      have h3 := hF.pr.1
      have h4 := hF.le
      have hD := rotD_lt d h1
      have hidx : (d.tmod (l.length : Int) + (l.length : Int)) % (l.length : Int) = (rotD d l.length : Int) := by
        rw [← rotD_cast d h1]
        rcases tmod_cases d h1 with ⟨a, b⟩ | ⟨a, b⟩
        · rw [b, Int.add_emod_right]; exact Int.emod_emod _ _
        · rw [b]; exact Int.emod_emod _ _
      have hT := fit_tu hF (rotD d l.length)
      have hW := fit_fwd hF
      have H1 := Lib.hid (show tuS (P : Int) l d = (tuL l (rotD d l.length), 0) from tu_val hF rfl)
      have H2 := Lib.hid (show fwdS (P : Int) (tuL l (rotD d l.length)) = (fwdL P (tuL l (rotD d l.length)), 0) by unfold fwdS; rw [if_pos (chkL_ok hT)]; rfl)
      have H3 := Lib.hid (show fwdS (P : Int) l = (fwdL P l, 0) by unfold fwdS; rw [if_pos (chkL_ok hF)]; rfl)
      have H4 := Lib.hid (show phS (P : Int) (fwdL P l) d = (fwdL P (tuL l (rotD d l.length)), 0) by
        rw [turn_phase hF hD]
        unfold phS; rw [if_pos (chkL_ok hW)]
        rw [show rotD d (fwdL P l).length = rotD d l.length by rw [fwdL_len]]
        rfl)
      have H5 := Lib.hid (show tuS (P : Int) (tuL l (rotD d l.length)) (-d) = (l, 0) by
        refine tu_val hT ?_
        rw [show rotD (-d) (tuL l (rotD d l.length)).length = rotD (-d) l.length by rw [tuL_len]]
        exact turn_back h1)
      have H6 := Lib.hid (show cvS (P : Int) l (oneL l.length (rotD d l.length)) = (tuL l (rotD d l.length), 0) from cv_val hF (fit_one hF hD) (by rw [oneL_len]) (conv_one hF hD))
      have HL1 := Lib.hid (tuL_len l (rotD d l.length))
      have HL2 := Lib.hid (show (fwdL P (tuL l (rotD d l.length))).length = l.length by rw [fwdL_len, tuL_len])
      have HL3 := Lib.hid (fwdL_len P l)
      have HO := Lib.hid (oneL_len l.length (rotD d l.length))
      have HOD := Lib.hid (show oneL l.length (rotD d l.length) = (List.replicate l.length (0 : Int)).set (rotD d l.length) 1 from rfl)
      have hbt := tmod_bd d h1
      clear hF hT hW
      generalize fwdL P (tuL l (rotD d l.length)) = xs at *
      generalize fwdL P l = ys at *
      generalize tuL l (rotD d l.length) = ts at *
      generalize oneL l.length (rotD d l.length) = ones at *
      generalize rotD d l.length = D at *
      obtain ⟨i0, hi0, hz0, hz1, hz2⟩ := info_int64
      have hmk := mk_row (P := Try.prog) 22 2 Try.underlying22 hi0 hz0 hz1 hz2 (encI .i64) (encI_len .i64) (by omega) 0 rfl l.length (by omega) (by omega)
      have hzz : ((l.length : Int) == 0) = false := by rw [beq_eq_false_iff_ne]; omega
      go_enter Try.func8, Try.ntmps8
      go_wp2_with fail
      refine (fit11_any _ _ _ _ _ _ _ _ hx hx hlx hlx hp.1 hp.2).mono ?_
      rintro _ w1 ⟨rfl, hb1⟩
      rw [e0]
      go_wp2_with fail
      refine (turn_at (P : Int) _ _ l d ts 0 H1.out _ (hx.keep hb1) hlx hp.1 hp.2 hd).mono ?_
      rintro _ w2 ⟨A2, c2, rfl, r2, hb2⟩
      have hB2 := bstep hb1 hb2
      clear hb1 hb2
      go_wp2_with fail
      refine (fwd_at (P : Int) _ _ ts xs 0 H2.out _ r2 (by rw [HL1.out]; omega) hp.1 hp.2).mono ?_
      rintro _ w3 ⟨A3, c3, rfl, r3, hb3⟩
      have hB3 := bstep hB2 hb3
      replace r2 := r2.keep hb3
      clear hB2 hb3
      go_wp2_with fail
      refine (fwd_at (P : Int) _ _ l ys 0 H3.out _ (hx.keep hB3) hlx hp.1 hp.2).mono ?_
      rintro _ w4 ⟨A4, c4, rfl, r4, hb4⟩
      have hB4 := bstep hB3 hb4
      replace r2 := r2.keep hb4
      replace r3 := r3.keep hb4
      clear hB3 hb4
      go_wp2_with fail
      refine (phase_at (P : Int) _ _ ys d xs 0 H4.out _ r4 (by rw [HL3.out]; omega) hp.1 hp.2 hd).mono ?_
      rintro _ w5 ⟨A5, c5, rfl, r5, hb5⟩
      have hB5 := bstep hB4 hb5
      replace r2 := r2.keep hb5
      replace r3 := r3.keep hb5
      clear hB4 hb5 r4
      go_wp2_with fail
      refine (turn_at (P : Int) _ _ ts (-d) l 0 H5.out _ r2 (by rw [HL1.out]; omega) hp.1 hp.2 (by omega)).mono ?_
      rintro _ w6 ⟨A6, c6, rfl, r6, hb6⟩
      have hB6 := bstep hB5 hb6
      replace r2 := r2.keep hb6
      replace r3 := r3.keep hb6
      replace r5 := r5.keep hb6
      clear hB5 hb6
      have hBk := Blk.new w6 2 ((List.replicate l.length (0 : Int)).flatMap (encI .i64)).toArray
      have o0 := blkI_at hBk (j := D) (by simpa using hD)
      have of0 := hBk.frozen D
      have hgl := hBk.lt
      have hfs := flat_set (encI .i64) 1 (encI_len .i64) (List.replicate l.length (0 : Int)) D 0 (by omega) (by simpa using hD) (.int .i64 1) 1 rfl
      rw [Nat.mul_one, Nat.add_zero, ← HOD.out] at hfs
      have HFS := Lib.hid hfs
      clear hfs
      have rOne : RI .i64 (w6.alloc (.cells (((List.replicate l.length (0 : Int)).flatMap (encI .i64)).set D (.int .i64 1)).toArray 2)) (some ⟨w6.heap.size, 0, none⟩) ones := blk_RI (e := 2) (by rw [← HFS.out]; exact Blk.new _ _ _)
      have hB7 := balloc hB6 (.cells (((List.replicate l.length (0 : Int)).flatMap (encI .i64)).set D (.int .i64 1)).toArray 2)
      have hst : Below w6.heap.size w6 (w6.alloc (.cells (((List.replicate l.length (0 : Int)).flatMap (encI .i64)).set D (.int .i64 1)).toArray 2)) := balloc (Below.refl _ _) _
      replace r2 := r2.keep hst
      replace r3 := r3.keep hst
      replace r5 := r5.keep hst
      replace r6 := r6.keep hst
      clear hst hBk hB6
      have hC := conv_at (P : Int) A (some ⟨w6.heap.size, 0, none⟩) c ones.length l ones ts 0 H6.out _ (hx.keep hB7) rOne hlx (by rw [HO.out]; omega) hp.1 hp.2
      rw [HO.out] at hC
      go_wp2_with fail
      refine (hC).mono ?_
      rintro _ w7 ⟨A7, c7, rfl, r7, hb7⟩
      have hB8 := bstep hB7 hb7
      replace r2 := r2.keep hb7
      replace r3 := r3.keep hb7
      replace r5 := r5.keep hb7
      replace r6 := r6.keep hb7
      clear hB7 hb7 rOne hC
      have hx8 := hx.keep hB8
      go_wp2_with fail
      refine (same10_any _ _ _ _ _ _ _ r3 r5 (by rw [HL2.out]; omega) (by rw [HL2.out]; omega)).mono ?_
      rintro _ w9 ⟨rfl, q9, rfl⟩
      go_wp2_with fail
      refine (same10_any _ _ _ _ _ _ _ (r6.keep (below_drewN (Below.refl _ _) _)) (hx8.keep (below_drewN (Below.refl _ _) _)) (by omega) (by omega)).mono ?_
      rintro _ w10 ⟨rfl, q10, rfl⟩
      go_wp2_with fail
      refine (same10_any _ _ _ _ _ _ _ (r7.keep (below_drewN (Below.refl _ _) _)) (r2.keep (below_drewN (Below.refl _ _) _)) (by rw [HL1.out]; omega) (by rw [HL1.out]; omega)).mono ?_
      rintro _ w11 ⟨rfl, q11, rfl⟩
      go_wp2_with fail
      refine (alive11_any _).mono ?_
      rintro _ w12 ⟨rfl, hb12⟩
      go_wp2
      go_ret
      exact ⟨by simp, by first | exact bstep (below_drewN (below_drewN (below_drewN hB8 _) _) _) hb12 | exact bstep (below_drewN (below_drewN hB8 _) _) hb12 | exact bstep (below_drewN hB8 _) hb12⟩
  · go_enter Try.func8, Try.ntmps8
    go_wp2_with fail
    refine (fit11_any _ _ _ _ _ _ _ _ hx hx hlx hlx hp.1 hp.2).mono ?_
    rintro _ w1 ⟨rfl, hb1⟩
    rw [e0]
    go_wp2_with fail
    refine (alive11_any _).mono ?_
    rintro _ w2 ⟨rfl, hb2⟩
    go_wp2
    go_ret
    exact ⟨rfl, bstep hb1 hb2⟩
end Go.Proofs.Ytdcacklochaljaa
