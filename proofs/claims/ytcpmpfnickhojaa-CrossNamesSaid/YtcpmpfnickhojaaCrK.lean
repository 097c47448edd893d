/-
  Layer 17: the examples, streams that fit; CrossLags.
-/
import Derived.Test.YtcpmpfnickhojaaPCrI
namespace Go.Proofs.Ytcpmpfnickhojaa
open Go.RowKit Num Dft
set_option linter.unusedVariables false
set_option linter.unusedSimpArgs false
namespace Crs
open Lol

theorem spc_zero (xs : List Int) : (spcL xs).getD 0 0 = sumM 7681 (fun j => (resL 7681 64 (fun k => xs.getD k 0)).getD j 0) 64 := by
  have h := fwd_zero (fit_res ok_p (fun k => xs.getD k 0))
  rw [resL_len] at h
  exact h
/-- The values of the product of two spectra. -/
theorem pair_val {xs ys : List Int} (hb : ∀ i k, -9 ≤ xs.getD i 0 * ys.getD k 0 ∧ xs.getD i 0 * ys.getD k 0 ≤ 9) : vlL (prdL (spcL xs) (spcL ys)) = fullL (corF 64 (fun k => xs.getD k 0) (fun k => ys.getD k 0)) 64 := by
  have hF : isSpB (prdL (spcL xs) (spcL ys)) = true := decide_eq_true ⟨prdL_len _ _, fun j hj => by
    rw [prdL_len] at hj
    unfold prdL
    rw [fullL_getD _ _ _ _ hj]
    exact ⟨Int.emod_nonneg _ (by omega), Int.emod_lt_of_pos _ (by omega)⟩⟩
  have e1 : prdL (spcL xs) (spcL ys) = fullL (fun k => S (fun i => if (fun _ : Nat => true) i = true then prK 7681 64 ((fun _ k => xs.getD k 0) i) ((fun _ k => ys.getD k 0) i) k else 0) 1 % ((7681 : Nat) : Int)) 64 :=
    fullL_congr fun k _ => by
      show prdF (spcL xs) (spcL ys) k = (0 + (if true = true then prK 7681 64 (fun k => xs.getD k 0) (fun k => ys.getD k 0) k else 0)) % 7681
      rw [if_pos rfl, Int.zero_add]
      rfl
  have e2 := sum_back ok_p 1 (fun _ => true) (fun _ k => xs.getD k 0) (fun _ k => ys.getD k 0)
  rw [← e1] at e2
  have e4 := bk_sp (fit_sp hF)
  have e5 : bkS ((7681 : Nat) : Int) (prdL (spcL xs) (spcL ys)) = bkS 7681 (prdL (spcL xs) (spcL ys)) := rfl
  rw [e5, e4] at e2
  have e3 : bkL 7681 (prdL (spcL xs) (spcL ys)) = resL 7681 64 (corF 64 (fun k => xs.getD k 0) (fun k => ys.getD k 0)) := by
    refine (Prod.mk.inj e2).1.trans ?_
    refine congrArg (resL 7681 64) (funext fun m => ?_)
    show 0 + (if true = true then corF 64 (fun k => xs.getD k 0) (fun k => ys.getD k 0) m else 0) = _
    rw [if_pos rfl, Int.zero_add]
  unfold vlL
  refine fullL_congr fun k hk => ?_
  unfold vlF
  rw [e3]
  refine sg_res _ (fun k _ => ?_) hk
  have := S_bd (f := fun u => (fun k => xs.getD k 0) u * (fun k => ys.getD k 0) ((u + k) % 64)) (n := 64) (b := 9) (fun u _ => hb u _)
  unfold corF
  omega
theorem sp_prd (xs ys : List Int) : isSpB (prdL (spcL xs) (spcL ys)) = true := decide_eq_true ⟨prdL_len _ _, fun j hj => by
    rw [prdL_len] at hj
    unfold prdL
    rw [fullL_getD _ _ _ _ hj]
    exact ⟨Int.emod_nonneg _ (by omega), Int.emod_lt_of_pos _ (by omega)⟩⟩
def fit17 (xs : List Int) : Bool := decide (xs.length ≤ 300) && decide (streamErr xs = 0)
theorem fit17_yes {xs : List Int} (h : fit17 xs = true) : streamErr xs = 0 := by
  simp only [fit17, Bool.and_eq_true, decide_eq_true_eq] at h
  exact h.2
theorem fit17_any (A : Option Addr) (c : Nat) (xs : List Int) (w : World) (hx : RI .i64 w A xs) (hl : xs.length ≤ 9223372036854775807) :
    Calls Try.prog 25 #[.slice A xs.length c] w fun e w' => e = .returned (.bool (fit17 xs)) ∧ w = w' := by
  by_cases h1 : xs.length ≤ 300
  · have d1 : decide (300 < xs.length) = false := decide_eq_false (by omega)
    by_cases he : streamErr xs = 0
    · have e1 : (streamErr xs == 0) = true := by simp [he]
      have HR : Hid (fit17 xs = true) := Lib.hid (by simp [fit17, h1, he])
      clear he
      go_enter Try.func25, Try.ntmps25
      go_wp2_with fail
      refine (long13_any _ _ _ _).mono ?_
      rintro _ _ ⟨rfl, rfl⟩
      go_wp2_with fail
      refine (refCheck13_any _ _ _ _ hx (by omega)).mono ?_
      rintro _ _ ⟨rfl, rfl⟩
      go_wp2
      go_ret
      exact ⟨ret_bool HR.out.symm, rfl⟩
    · have e1 : (streamErr xs == 0) = false := by simp [he]
      have HR : Hid (fit17 xs = false) := Lib.hid (by simp [fit17, he])
      clear he
      go_enter Try.func25, Try.ntmps25
      go_wp2_with fail
      refine (long13_any _ _ _ _).mono ?_
      rintro _ _ ⟨rfl, rfl⟩
      go_wp2_with fail
      refine (refCheck13_any _ _ _ _ hx (by omega)).mono ?_
      rintro _ _ ⟨rfl, rfl⟩
      go_wp2
      go_ret
      exact ⟨ret_bool HR.out.symm, rfl⟩
  · have d1 : decide (300 < xs.length) = true := decide_eq_true (by omega)
    have HR : Hid (fit17 xs = false) := Lib.hid (by simp [fit17, h1])
    go_enter Try.func25, Try.ntmps25
    go_wp2_with fail
    refine (long13_any _ _ _ _).mono ?_
    rintro _ _ ⟨rfl, rfl⟩
    go_wp2
    go_ret
    exact ⟨ret_bool HR.out.symm, rfl⟩
theorem nmA : streamErr [1, 3] = 0 ∧ streamErr [-1, 1] = 0 := by decide
theorem nmV : (fullL (corF 64 (fun k => ([1, 3] : List Int).getD k 0) (fun k => ([-1, 1] : List Int).getD k 0)) 64).getD 0 0 = 2 ∧ (fullL (corF 64 (fun k => ([1, 3] : List Int).getD k 0) (fun k => ([-1, 1] : List Int).getD k 0)) 64).getD 1 0 = 1 ∧ (fullL (corF 64 (fun k => ([1, 3] : List Int).getD k 0) (fun k => ([-1, 1] : List Int).getD k 0)) 64).getD 63 0 = -3 ∧ ∀ k, k < 63 → 2 ≤ k → (fullL (corF 64 (fun k => ([1, 3] : List Int).getD k 0) (fun k => ([-1, 1] : List Int).getD k 0)) 64).getD k 0 = 0 := by decide +kernel
theorem nmS1 : (spcL [1, 3]).getD 0 0 = 4 := by rw [spc_zero]; decide +kernel
theorem nmS2 : (spcL [-1, 1]).getD 0 0 = 0 := by rw [spc_zero]; decide +kernel
theorem nmL : Lagw.ofSpec [1, 3] [-1, 1] 1 = ([(-3, 1), (2, 2), (1, 1)], 0) := by decide +kernel
set_option maxRecDepth 100000 in
set_option maxHeartbeats 8000000 in
theorem alive17 (w : World) : Calls Try.prog 24 #[] w fun e w' => e = .returned (.bool true) ∧ Below w.heap.size w w' := by
  have H1 := fun A c w hx => spectrum_w A c [1, 3] w nmA.1 (by simp) hx
  have H2 := fun A c w hx => spectrum_w A c [-1, 1] w nmA.2 (by simp) hx
  have H3 := fun A B c d w hx hy => product_w A B c d (spcL [1, 3]) (spcL [-1, 1]) w (sp_spc _) (sp_spc _) hx hy
  rw [spcL_len, spcL_len] at H3
  have H4 := fun A c w hx => values_w A c (prdL (spcL [1, 3]) (spcL [-1, 1])) _ w (sp_prd _ _) (pair_val (prod_9 nmA.1 nmA.2)) hx
  have H5 := fun A B c d w hx hy hc hd => crossOf_any A B c d [1, 3] [-1, 1] 1 w hx hy hc hd (by simp) (by simp)
  rw [nmL] at H5
  obtain ⟨v0, v1, v63, vz⟩ := nmV
  have s1 := nmS1
  have s2 := nmS2
  have HL1 := Lib.hid (spcL_len [1, 3])
  have HL2 := Lib.hid (spcL_len [-1, 1])
  have HLV := Lib.hid (fullL_len (corF 64 (fun k => ([1, 3] : List Int).getD k 0) (fun k => ([-1, 1] : List Int).getD k 0)) 64)
  generalize fullL (corF 64 (fun k => ([1, 3] : List Int).getD k 0) (fun k => ([-1, 1] : List Int).getD k 0)) 64 = V at *
  generalize prdL (spcL [1, 3]) (spcL [-1, 1]) = PR at *
  generalize spcL [1, 3] = S1 at *
  generalize spcL [-1, 1] = S2 at *
  have HV := Lib.hid (And.intro v0 (And.intro v1 (And.intro v63 vz)))
  have HS := Lib.hid (And.intro s1 s2)
  clear v0 v1 v63 vz s1 s2
  have hB0 := Below.refl w.heap.size w
  have hM1 := balloc hB0 (.cells #[.int .i64 1, .int .i64 3] 3)
  go_enter Try.func24, Try.ntmps24
  go_wp2_with fail
  refine (H1 _ _ _ (RI_lit' (t := 3) [1, 3] _ rfl (Blk.newAt _ _ (by simp)) rfl)).mono ?_
  rintro _ w1 ⟨A1, c1, rfl, r1', _, hb1⟩
  have r1 := r1'.ri
  have hB1 := bstep hM1 hb1
  have hM2 := balloc hB1 (.cells #[.int .i64 (-1), .int .i64 1] 3)
  clear r1' hb1 hM1 hB0 hB1
  go_wp2_with fail
  refine (H2 _ _ _ (RI_lit' (t := 3) [-1, 1] _ rfl (Blk.newAt _ _ (by simp)) rfl)).mono ?_
  rintro _ w2 ⟨A2, c2, rfl, r2', _, hb2⟩
  have r2 := r2'.ri
  have hB2 := bstep hM2 hb2
  replace r1 := (r1.keep (balloc (Below.refl _ _) (.cells #[.int .i64 (-1), .int .i64 1] 3))).keep hb2
  clear r2' hb2 hM2
  go_wp2_with fail
  refine (H3 _ _ _ _ _ r1 r2).mono ?_
  rintro _ w3 ⟨A3, c3, rfl, r3', hb3⟩
  have r3 := r3'.ri
  have hB3 := bstep hB2 hb3
  replace r1 := r1.keep hb3
  replace r2 := r2.keep hb3
  clear r3' hb3 hB2
  go_wp2_with fail
  refine (H4 _ _ _ r3).mono ?_
  rintro _ w4 ⟨A4, c4, rfl, r4', hb4⟩
  have r4 := r4'.ri
  have hB4 := bstep hB3 hb4
  replace r1 := r1.keep hb4
  replace r2 := r2.keep hb4
  clear r4' hb4 hB3 r3
  have hM5 := balloc (balloc hB4 (.cells #[.int .i64 1, .int .i64 3] 3)) (.cells #[.int .i64 (-1), .int .i64 1] 3)
  go_wp2_with fail
  refine (H5 _ _ _ _ _ (RI_lit' (t := 3) [1, 3] _ rfl ((Blk.newAt _ _ (by simp)).alloc _) rfl) (RI_lit' (t := 3) [-1, 1] _ rfl (Blk.newAt _ _ (by simp)) rfl) (by simp) (by simp)).mono ?_
  rintro _ w5 ⟨A5, c5, rfl, r5, hb5⟩
  have hB5 := bstep hM5 hb5
  replace r1 := (r1.keep (balloc (balloc (Below.refl _ _) (.cells #[.int .i64 1, .int .i64 3] 3)) (.cells #[.int .i64 (-1), .int .i64 1] 3))).keep hb5
  replace r2 := (r2.keep (balloc (balloc (Below.refl _ _) (.cells #[.int .i64 1, .int .i64 3] 3)) (.cells #[.int .i64 (-1), .int .i64 1] 3))).keep hb5
  replace r4 := (r4.keep (balloc (balloc (Below.refl _ _) (.cells #[.int .i64 1, .int .i64 3] 3)) (.cells #[.int .i64 (-1), .int .i64 1] 3))).keep hb5
  clear hb5 hM5 hB4
  obtain ⟨b1, o1, rfl, l1, h1⟩ := r1.at2 (i := 0) (by rw [HL1.out]; omega)
  obtain ⟨b2, o2, rfl, l2, h2⟩ := r2.at2 (i := 0) (by rw [HL2.out]; omega)
  obtain ⟨b4, o4, rfl, l4, h4⟩ := r4.at2 (i := 0) (by rw [HLV.out]; omega)
  obtain ⟨b4', o4', e4, _, h5⟩ := r4.at2 (i := 1) (by rw [HLV.out]; omega)
  obtain ⟨rfl, rfl⟩ : b4 = b4' ∧ o4 = o4' := by injection e4 with e4; injection e4 with e5 e6; exact ⟨e5, e6⟩
  obtain ⟨b4', o4', e4, _, h6⟩ := r4.at2 (i := 63) (by rw [HLV.out]; omega)
  obtain ⟨rfl, rfl⟩ : b4 = b4' ∧ o4 = o4' := by injection e4 with e4; injection e4 with e5 e6; exact ⟨e5, e6⟩
  rw [HS.out.1, Nat.add_zero] at h1
  rw [HS.out.2, Nat.add_zero] at h2
  rw [HV.out.1, Nat.add_zero] at h4
  rw [HV.out.2.1] at h5
  rw [HV.out.2.2.1] at h6
  clear e4
  go_wp2
  go_loopg [12] 61 (fun gk i wr => ∃ k : Nat, k + gk = 63 ∧ 2 ≤ k ∧ i = .int .i64 k ∧ wr = w5)
  case atStart => exact ⟨2, by omega, by omega, rfl, rfl⟩
  case round =>
    obtain ⟨k, hk, hk2, rfl, rfl⟩ := hrel
    have hk' : k ≤ 63 := by omega
    have HK := Lib.hid hk
    clear hk
    by_cases hlt : k < 63
    · obtain ⟨b4', o4', e4, _, h7⟩ := r4.at2 (i := k) (by rw [HLV.out]; omega)
      obtain ⟨rfl, rfl⟩ : b4 = b4' ∧ o4 = o4' := by injection e4 with e4; injection e4 with e5 e6; exact ⟨e5, e6⟩
      rw [HV.out.2.2.2 k hlt hk2] at h7
      clear e4
      go_wp2
      go_roundg (gk - 1)
      case rel => exact ⟨k + 1, by have := HK.out; omega, by omega, by go_num, rfl⟩
      case measure => have := HK.out; omega
    · clear h1 h2 h4 h5 h6
      have hM6 := balloc hB5 (.cells #[.int .i64 (-3), .int .i64 1, .int .i64 2, .int .i64 2, .int .i64 1, .int .i64 1] 55)
      have hdd : decide (([(-3, 1), (2, 2), (1, 1)] : List (Int × Int)) = [(-3, 1), (2, 2), (1, 1)]) = true := by decide
      have HSame := fun A B c d w hx hy => Lagc.same16_any A B c d [(-3, 1), (2, 2), (1, 1)] [(-3, 1), (2, 2), (1, 1)] w hx hy (by simp) (by simp)
      rw [hdd] at HSame
      go_wp2_with fail
      refine (HSame _ _ _ _ _ (r5.keep (balloc (Below.refl _ _) _)) (RL_lit [(-3, 1), (2, 2), (1, 1)] _ (Blk.newAt _ _ (by simp)) rfl)).mono ?_
      rintro _ w6 ⟨rfl, q6, rfl⟩
      go_wp2
      go_ret
      exact ⟨rfl, below_drewN hM6 _⟩
end Crs
end Go.Proofs.Ytcpmpfnickhojaa
