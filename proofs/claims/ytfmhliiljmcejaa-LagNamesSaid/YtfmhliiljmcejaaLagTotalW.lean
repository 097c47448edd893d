/-
  The walk of LagTotal.
-/
import Derived.Test.YtfmhliiljmcejaaLagN
import Derived.Test.YtfmhliiljmcejaaLagL
namespace Go.Proofs.Ytfmhliiljmcejaa
open Go.RowKit
set_option linter.unusedVariables false

theorem sumL_snoc {xs : List Int} {k : Nat} : sumR (fun i => xs.getD i 0) (k + 1) = sumR (fun i => xs.getD i 0) k + xs.getD k 0 := rfl
theorem stream_sum_bd {xs : List Int} (h : streamErr xs = 0) (k : Nat) : -(3 * (k : Int)) ≤ sumR (fun i => xs.getD i 0) k ∧ sumR (fun i => xs.getD i 0) k ≤ 3 * k ∧ 0 ≤ sumR (fun i => nz (xs.getD i 0)) k ∧ sumR (fun i => nz (xs.getD i 0)) k ≤ k := by
  induction k with
  | zero => simp [sumR]
  | succ k ih =>
    rw [sumR_succ, sumR_succ]
    have h1 := stream_at h k
    have h2 := nz_01 (xs.getD k 0)
    omega
theorem mul_bd {a b : Int} (h1 : -768 ≤ a) (h2 : a ≤ 768) (h3 : -768 ≤ b) (h4 : b ≤ 768) : -589824 ≤ a * b ∧ a * b ≤ 589824 := by
  have e : (a * b).natAbs ≤ 768 * 768 := by
    rw [Int.natAbs_mul]
    exact Nat.mul_le_mul (by omega) (by omega)
  omega

theorem lagOf_full {A B : Option Addr} {c d : Nat} {most : Int} {w : World} {xs ys : List Int} (he : streamErr xs = 0) (he2 : streamErr ys = 0) (hm : ∃ m : Nat, most = (m : Int) ∧ m ≤ 255 ∧ xs.length ≤ m + 1 ∧ ys.length ≤ m + 1) (hx : RI .i64 w A xs) (hy : RI .i64 w B ys) :
    Calls Try.prog 11 #[.slice A xs.length c, .slice B ys.length d, .int .i64 most] w fun e w' => ∃ m A' c', (m ≤ 255 ∧ xs.length ≤ m + 1 ∧ ys.length ≤ m + 1) ∧ e = .returned (.tuple #[.slice A' (lagCells xs ys m).length c', .int .i64 0]) ∧ RL w' A' (lagCells xs ys m) ∧ Below w.heap.size w w' := by
  obtain ⟨m, rfl, h1, h2, h3⟩ := hm
  have hl5 := (streamErr_zero he).1
  have hl6 := (streamErr_zero he2).1
  have h := lagOf_any A B c d xs ys (m : Int) w hx hy (by omega) (by omega)
  rw [ofSpec_ok he he2 h1] at h
  refine h.mono ?_
  rintro e w' ⟨A', c', rfl, ho, hb⟩
  exact ⟨m, A', c', ⟨h1, h2, h3⟩, rfl, own_RL ho, hb⟩
theorem totS_cells {xs ys : List Int} {m : Nat} (he : streamErr xs = 0) (he2 : streamErr ys = 0) (h : m ≤ 255 ∧ xs.length ≤ m + 1 ∧ ys.length ≤ m + 1) : totS (lagCells xs ys m) = (sumL xs * sumL ys, cntL xs * cntL ys) := by
  unfold totS
  rw [if_pos (lagErr_cells he he2 h.1), total_law h.2.1 h.2.2]

set_option maxRecDepth 100000 in
set_option maxHeartbeats 4000000 in
theorem lagTotal_walk (A : Option Addr) (c : Nat) (xs : List Int) (B : Option Addr) (d : Nat) (ys : List Int) (w : World)
    (hx : RI .i64 w A xs) (hlx : xs.length ≤ 9223372036854775807) (_ : ∀ x ∈ xs, (Lit.int .i64 x).wf = true) (hy : RI .i64 w B ys) (hly : ys.length ≤ 9223372036854775807) (_ : ∀ x ∈ ys, (Lit.int .i64 x).wf = true) :
    Calls Try.prog 5 #[.slice A xs.length c, .slice B ys.length d] w fun e w' => e = .returned (.bool true) ∧ Below w.heap.size w w' := by
  rcases (Decidable.em (streamErr xs = 0)).symm with he | he
  · have e1 : (streamErr xs == 0) = false := by simp [he]
    clear he
    go_enter Try.func5, Try.ntmps5
    go_wp2_with fail
    refine (alive16 _).mono ?_
    rintro e w1 ⟨rfl, hb1⟩
    go_wp2_with (go_at_call 29; refine (fit16_any _ _ _ _ (hx.keep hb1) hlx).mono ?_; rintro e w' ⟨rfl, rfl⟩)
    go_ret
    exact ⟨rfl, hb1⟩
  have e1 : (streamErr xs == 0) = true := by simp [he]
  have HE := Lib.hid he
  have hl5 := (streamErr_zero he).1
  clear he
  rcases (Decidable.em (streamErr ys = 0)).symm with he | he
  · have e2 : (streamErr ys == 0) = false := by simp [he]
    clear he
    go_enter Try.func5, Try.ntmps5
    go_wp2_with fail
    refine (alive16 _).mono ?_
    rintro e w1 ⟨rfl, hb1⟩
    go_wp2_with fail
    refine (fit16_any _ _ _ _ (hx.keep hb1) hlx).mono ?_
    rintro e w' ⟨rfl, rfl⟩
    go_wp2_with fail
    refine (fit16_any _ _ _ _ (hy.keep hb1) hly).mono ?_
    rintro e w' ⟨rfl, rfl⟩
    go_wp2
    go_ret
    exact ⟨rfl, hb1⟩
  have e2 : (streamErr ys == 0) = true := by simp [he]
  have HE2 := Lib.hid he
  have hl6 := (streamErr_zero he).1
  clear he
  go_enter Try.func5, Try.ntmps5
  go_wp2_with fail
  refine (alive16 _).mono ?_
  rintro e w1 ⟨rfl, hb1⟩
  go_wp2_with fail
  refine (fit16_any _ _ _ _ (hx.keep hb1) hlx).mono ?_
  rintro e w' ⟨rfl, rfl⟩
  go_wp2_with fail
  refine (fit16_any _ _ _ _ (hy.keep hb1) hly).mono ?_
  rintro e w' ⟨rfl, rfl⟩
  have bx := stream_sum_bd HE.out xs.length
  have bY := stream_sum_bd HE2.out ys.length
  have pb := mul_bd (a := sumL xs) (b := sumL ys) (by unfold sumL; omega) (by unfold sumL; omega) (by unfold sumL; omega) (by unfold sumL; omega)
  have pc := mul_bd (a := cntL xs) (b := cntL ys) (by unfold cntL; omega) (by unfold cntL; omega) (by unfold cntL; omega) (by unfold cntL; omega)
  have PB := Lib.hid pb
  have PC := Lib.hid pc
  clear bx bY pb pc
  go_wp2_with fail
  all_goals
    refine (lagOf_full HE.out HE2.out (by first | exact ⟨0, by omega, by omega, by omega, by omega⟩ | exact ⟨ys.length - 1, by omega, by omega, by omega, by omega⟩ | exact ⟨xs.length - 1, by omega, by omega, by omega, by omega⟩) (hx.keep hb1) (hy.keep hb1)).mono ?_
    rintro e w2 ⟨m, A2, c2, hm, rfl, hL, hb2⟩
    have hB2 := bstep hb1 hb2
    clear hb2
    have HM := Lib.hid hm
    clear hm
    have hll : (lagCells xs ys m).length ≤ 140737488355328 := by rw [lagCells_len]; have := HM.out; omega
    go_wp2_with fail
    refine (lagTotal_at _ _ _ rfl (totS_cells HE.out HE2.out HM.out) (lagErr_cells HE.out HE2.out HM.out.1) hL hll).mono ?_
    rintro e w3 ⟨rfl, hb3⟩
    have hT := Blk.new w3 39 #[.int .i64 (sumL xs * sumL ys), .int .i64 (cntL xs * cntL ys)]
    have hB3 := balloc (bstep hB2 hb3) (.cells #[.int .i64 (sumL xs * sumL ys), .int .i64 (cntL xs * cntL ys)] 39)
    have hL3 := hL.keep (balloc hb3 (.cells #[.int .i64 (sumL xs * sumL ys), .int .i64 (cntL xs * cntL ys)] 39))
    clear hb3 hL
    go_wp2_with fail
    refine (lagCheck_any _ _ _ _ hL3 hll).mono ?_
    rintro e w4 ⟨rfl, hb4⟩
    replace hT := hT.keep hb4
    replace hL3 := hL3.keep hb4
    have hB4 := bstep hB3 hb4
    clear hb4 hB3
    have z1 : (lagErr (lagCells xs ys m) != 0) = false := by simp [lagErr_cells HE.out HE2.out HM.out.1]
    go_wp2_with fail
    refine (refCheck16_any _ _ _ _ hL3 hll).mono ?_
    rintro e w5 ⟨rfl, hb5⟩
    replace hT := hT.keep hb5
    have hB5 := bstep hB4 hb5
    clear hb5 hB4 hL3
    go_wp2
    go_loopg [10, 12, 14] xs.length (fun gk s1 s2 s3 wr => ∃ k : Nat, k + gk = xs.length ∧ s3 = .int .i64 k ∧ s1 = .int .i64 (sumR (fun i => xs.getD i 0) k) ∧ s2 = .int .i64 (sumR (fun i => nz (xs.getD i 0)) k) ∧ w5 = wr)
    case atStart => exact ⟨0, by omega, rfl, rfl, rfl, rfl⟩
    case round =>
      obtain ⟨k, hk, rfl, rfl, rfl, rfl⟩ := hrel
      have hk' : k ≤ xs.length := by omega
      have HK := Lib.hid hk
      clear hk
      have hbd := stream_sum_bd HE.out k
      by_cases hlt : k < xs.length
      · obtain ⟨b, off, rfl, hc⟩ := (hx.keep hB5).at_ hlt
        have hv := stream_at HE.out k
        rw [getD_lt _ _ hlt] at hv
        have sn1 := Lib.hid (sumR_succ (fun i => xs.getD i 0) k)
        have sn2 := Lib.hid (sumR_succ (fun i => nz (xs.getD i 0)) k)
        generalize hg1 : sumR (fun i => xs.getD i 0) k = g1 at *
        generalize hg2 : sumR (fun i => nz (xs.getD i 0)) k = g2 at *
        have HG1 := Lib.hid hg1
        have HG2 := Lib.hid hg2
        clear hg1 hg2
        by_cases hz : xs[k] = 0
        · have ez : (xs[k] != 0) = false := by simp [hz]
          have HZ := Lib.hid hz
          have hv1 : -3 ≤ xs[k] := by omega
          have hv2 : xs[k] ≤ 3 := by omega
          clear hz hv
          go_wp2
          go_roundg (gk - 1)
          case rel => exact ⟨k + 1, by have := HK.out; omega, by go_num, by rw [sn1.out, getD_lt _ _ hlt], by rw [sn2.out, getD_lt _ _ hlt, HZ.out]; simp [nz], rfl⟩
          case measure => have := HK.out; omega
        · have ez : (xs[k] != 0) = true := by simp [hz]
          have HZ := Lib.hid hz
          have hv1 : -3 ≤ xs[k] := by omega
          have hv2 : xs[k] ≤ 3 := by omega
          clear hz hv
          go_wp2
          go_roundg (gk - 1)
          case rel => exact ⟨k + 1, by have := HK.out; omega, by go_num, by rw [sn1.out, getD_lt _ _ hlt], by rw [sn2.out, getD_lt _ _ hlt]; simp [nz, HZ.out], rfl⟩
          case measure => have := HK.out; omega
      · obtain rfl : k = xs.length := by omega
        go_wp2
        go_loopg [11, 13, 15] ys.length (fun gk s1 s2 s3 wr => ∃ k : Nat, k + gk = ys.length ∧ s3 = .int .i64 k ∧ s1 = .int .i64 (sumR (fun i => ys.getD i 0) k) ∧ s2 = .int .i64 (sumR (fun i => nz (ys.getD i 0)) k) ∧ w5 = wr)
        case atStart => exact ⟨0, by omega, rfl, rfl, rfl, rfl⟩
        case round =>
          obtain ⟨k, hk, rfl, rfl, rfl, rfl⟩ := hrel
          have hk' : k ≤ ys.length := by omega
          have HK := Lib.hid hk
          clear hk
          have hbd := stream_sum_bd HE2.out k
          by_cases hlt : k < ys.length
          · obtain ⟨b, off, rfl, hc⟩ := (hy.keep hB5).at_ hlt
            have hv := stream_at HE2.out k
            rw [getD_lt _ _ hlt] at hv
            have sn1 := Lib.hid (sumR_succ (fun i => ys.getD i 0) k)
            have sn2 := Lib.hid (sumR_succ (fun i => nz (ys.getD i 0)) k)
            generalize hg1 : sumR (fun i => ys.getD i 0) k = g1 at *
            generalize hg2 : sumR (fun i => nz (ys.getD i 0)) k = g2 at *
            have HG1 := Lib.hid hg1
            have HG2 := Lib.hid hg2
            clear hg1 hg2
            by_cases hz : ys[k] = 0
            · have ez : (ys[k] != 0) = false := by simp [hz]
              have HZ := Lib.hid hz
              have hv1 : -3 ≤ ys[k] := by omega
              have hv2 : ys[k] ≤ 3 := by omega
              clear hz hv
              go_wp2
              go_roundg (gk - 1)
              case rel => exact ⟨k + 1, by have := HK.out; omega, by go_num, by rw [sn1.out, getD_lt _ _ hlt], by rw [sn2.out, getD_lt _ _ hlt, HZ.out]; simp [nz], rfl⟩
              case measure => have := HK.out; omega
            · have ez : (ys[k] != 0) = true := by simp [hz]
              have HZ := Lib.hid hz
              have hv1 : -3 ≤ ys[k] := by omega
              have hv2 : ys[k] ≤ 3 := by omega
              clear hz hv
              go_wp2
              go_roundg (gk - 1)
              case rel => exact ⟨k + 1, by have := HK.out; omega, by go_num, by rw [sn1.out, getD_lt _ _ hlt], by rw [sn2.out, getD_lt _ _ hlt]; simp [nz, HZ.out], rfl⟩
              case measure => have := HK.out; omega
          · obtain rfl : k = ys.length := by omega
            have t0 : w5.cell? ⟨w3.heap.size, 0, none⟩ = some (.int .i64 (sumL xs * sumL ys)) := hT.cell 0
            have t1 : w5.cell? ⟨w3.heap.size, 1, none⟩ = some (.int .i64 (cntL xs * cntL ys)) := hT.cell 1
            have q1 := PB.out
            have q2 := PC.out
            unfold sumL at t0 q1
            unfold cntL at t1 q2
            clear hbd hlt PB PC HK
            generalize sumR (fun i => xs.getD i 0) xs.length = sa at *
            generalize sumR (fun i => ys.getD i 0) ys.length = sb at *
            generalize sumR (fun i => nz (xs.getD i 0)) xs.length = sc at *
            generalize sumR (fun i => nz (ys.getD i 0)) ys.length = sd at *
            go_wp2
            go_ret
            exact ⟨by simp, hB5⟩
end Go.Proofs.Ytfmhliiljmcejaa
