/-
  Contract: fringeref16.Of, for seats with LagOfW.
-/
import Derived.Test.YtdekbncpodjgnaaLagOfW
namespace Go.Proofs.Ytdekbncpodjgnaa
open Go.RowKit
set_option linter.unusedVariables false
set_option linter.unusedSimpArgs false
namespace Lagw

set_option maxRecDepth 100000 in
set_option maxHeartbeats 4000000 in
theorem refOf_any (A B : Option Addr) (c d : Nat) (xs ys : List Int) (most : Int) (w : World) (hx : RI .i64 w A xs) (hy : RI .i64 w B ys) (hl : xs.length ≤ 140737488355328) (hl2 : ys.length ≤ 140737488355328) :
    Calls Try.prog 41 #[.slice A xs.length c, .slice B ys.length d, .int .i64 most] w (RetQ 75 w (ofSpec xs ys most)) := by
  rcases (Decidable.em (streamErr xs = 0)).symm with he | he
  · have e1 : (streamErr xs != 0) = true := by simp [he]
    have HE := Lib.hid he
    clear he
    go_enter Try.func41, Try.ntmps41
    go_wp2_with fail
    refine (refCheck13_any _ _ _ _ hx hl).mono ?_
    rintro e w' ⟨rfl, rfl⟩
    go_wp2_with fail
    refine (refCheck13_any _ _ _ _ hx hl).mono ?_
    rintro e w' ⟨rfl, rfl⟩
    go_wp2
    go_ret2
    exact RetQ.nil (ofSpec_x HE.out) (Below.refl _ _)
  have e1 : (streamErr xs != 0) = false := by simp [he]
  have HE := Lib.hid he
  have hl5 := (streamErr_zero he).1
  clear he
  rcases (Decidable.em (streamErr ys = 0)).symm with he | he
  · have e2 : (streamErr ys != 0) = true := by simp [he]
    have HE2 := Lib.hid he
    clear he
    go_enter Try.func41, Try.ntmps41
    go_wp2_with fail
    refine (refCheck13_any _ _ _ _ hx hl).mono ?_
    rintro e w' ⟨rfl, rfl⟩
    go_wp2_with fail
    refine (refCheck13_any _ _ _ _ hy hl2).mono ?_
    rintro e w' ⟨rfl, rfl⟩
    go_wp2_with fail
    refine (refCheck13_any _ _ _ _ hy hl2).mono ?_
    rintro e w' ⟨rfl, rfl⟩
    go_wp2
    go_ret2
    exact RetQ.nil (ofSpec_y HE.out HE2.out) (Below.refl _ _)
  have e2 : (streamErr ys != 0) = false := by simp [he]
  have HE2 := Lib.hid he
  have hl6 := (streamErr_zero he).1
  clear he
  rcases (Decidable.em (most < 0)) with hm | hm
  · go_enter Try.func41, Try.ntmps41
    go_wp2_with fail
    refine (refCheck13_any _ _ _ _ hx hl).mono ?_
    rintro e w' ⟨rfl, rfl⟩
    go_wp2_with fail
    refine (refCheck13_any _ _ _ _ hy hl2).mono ?_
    rintro e w' ⟨rfl, rfl⟩
    go_wp2
    go_ret2
    exact RetQ.nil (ofSpec_m HE.out HE2.out (.inl hm)) (Below.refl _ _)
  rcases (Decidable.em (255 < most)) with hm2 | hm2
  · go_enter Try.func41, Try.ntmps41
    go_wp2_with fail
    refine (refCheck13_any _ _ _ _ hx hl).mono ?_
    rintro e w' ⟨rfl, rfl⟩
    go_wp2_with fail
    refine (refCheck13_any _ _ _ _ hy hl2).mono ?_
    rintro e w' ⟨rfl, rfl⟩
    go_wp2
    go_ret2
    exact RetQ.nil (ofSpec_m HE.out HE2.out (.inr hm2)) (Below.refl _ _)
  obtain ⟨m, rfl⟩ : ∃ m : Nat, most = (m : Int) := ⟨most.toNat, by omega⟩
  have hm255 : m ≤ 255 := by omega
  have dm1 : decide ((m : Int) < 0) = false := by simp
  have dm2 : decide (255 < (m : Int)) = false := by simpa using hm2
  clear hm hm2
  obtain ⟨i0, hi0, hz0, hz1, hz2⟩ := info_parts info_lag
  have hmk := mk_row (P := Try.prog) 31 75 Try.underlying31 hi0 hz0 hz1 hz2 encP encP_len (by omega) (0, 0) rfl (2 * m + 1) (by omega) (by omega)
  have ec : ((2 * m + 1 : Nat) : Int) = 2 * (m : Int) + 1 := by omega
  rw [ec] at hmk
  clear ec
  go_enter Try.func41, Try.ntmps41
  go_wp2_with fail
  refine (refCheck13_any _ _ _ _ hx hl).mono ?_
  rintro e w' ⟨rfl, rfl⟩
  go_wp2_with fail
  refine (refCheck13_any _ _ _ _ hy hl2).mono ?_
  rintro e w' ⟨rfl, rfl⟩
  go_wp2
  go_loopg [9, 10, 11] xs.length (fun gk i _ _ wr => ∃ k : Nat, k + gk = xs.length ∧ i = .int .i64 k ∧ Blk wr w.heap.size 75 ((outSt xs ys m k).flatMap encP).toArray ∧ Below w.heap.size w wr)
  case atStart => exact ⟨0, by omega, rfl, Blk.new w 75 _, balloc (Below.refl _ _) _⟩
  case round =>
    obtain ⟨k, hk, rfl, hO, hb⟩ := hrel
    have hk' : k ≤ xs.length := by omega
    have HK := Lib.hid hk
    clear hk
    by_cases hlt : k < xs.length
    · obtain ⟨b1, off1, rfl, hlw1, hcw⟩ := hx.at2 hlt
      rw [getD_lt _ _ hlt] at hcw
      obtain ⟨wo, rfl⟩ : ∃ wo : World, wo = wr := ⟨_, rfl⟩
      obtain ⟨gu, rfl⟩ : ∃ gu : Nat, gu = gk := ⟨_, rfl⟩
      go_wp2
      go_loopg [10, 11] ys.length (fun ga s10 _ wq => ∃ a : Nat, a + ga = ys.length ∧ s10 = .int .i64 a ∧ Blk wq w.heap.size 75 ((inSt xs ys m k (outSt xs ys m k) a).flatMap encP).toArray ∧ Below w.heap.size w wq)
      case atStart => exact ⟨0, by omega, rfl, by rw [inSt]; exact hO, hb⟩
      case round =>
        obtain ⟨a, ha, rfl, hI, hbq⟩ := hrel
        have haa : a ≤ ys.length := by omega
        have HA := Lib.hid ha
        clear ha
        by_cases hay : a < ys.length
        · obtain ⟨b2, off2, rfl, hd⟩ := (hy.keep hbq).at_ hay
          rw [getD_lt _ _ hay] at hd
          have hc' := (hbq.cell (p := ⟨b1, off1 + k, none⟩) hlw1).trans hcw
          by_cases hfar : a + m < k ∨ k + m < a
          · have HF := Lib.hid (inSt_no (xs := xs) (ys := ys) (o := outSt xs ys m k) (hits_far hfar))
            rcases hfar with hfar | hfar
            all_goals
              go_wp2
              go_roundg (gk - 1)
              case rel => exact ⟨a + 1, by have := HA.out; omega, by go_num, by rw [HF.out]; exact hI, hbq⟩
              case measure => have := HA.out; omega
          have g1 : k ≤ a + m := by omega
          have g2 : a ≤ k + m := by omega
          have d1 : decide ((a : Int) - k < -(m : Int)) = false := by simp; omega
          have d2 : decide ((m : Int) < (a : Int) - k) = false := by simp; omega
          clear hfar
          by_cases hz : xs[k] = 0
          · have ez : (xs[k] == 0) = true := by simp [hz]
            have HF := Lib.hid (inSt_no (xs := xs) (ys := ys) (o := outSt xs ys m k) (m := m) (k := a) (hits_x (i := k) (by rw [getD_lt _ _ hlt]; exact hz)))
            clear hz
            go_wp2
            go_roundg (gk - 1)
            case rel => exact ⟨a + 1, by have := HA.out; omega, by go_num, by rw [HF.out]; exact hI, hbq⟩
            case measure => have := HA.out; omega
          have ez : (xs[k] == 0) = false := by simp [hz]
          have HZ := Lib.hid hz
          clear hz
          by_cases hyz : ys[a] = 0
          · have ey : (ys[a] == 0) = true := by simp [hyz]
            have HF := Lib.hid (inSt_no (xs := xs) (ys := ys) (o := outSt xs ys m k) (m := m) (i := k) (k := a) (hits_y (by rw [getD_lt _ _ hay]; exact hyz)))
            clear hyz
            go_wp2
            go_roundg (gk - 1)
            case rel => exact ⟨a + 1, by have := HA.out; omega, by go_num, by rw [HF.out]; exact hI, hbq⟩
            case measure => have := HA.out; omega
          have ey : (ys[a] == 0) = false := by simp [hyz]
          have HY := Lib.hid hyz
          clear hyz
          have hJ : ((a : Int) - k + m).toNat < (inSt xs ys m k (outSt xs ys m k) a).length := by rw [inSt_len, outSt_len]; omega
          obtain ⟨o0, o1⟩ := blkP_at hI hJ
          have p0 := hI.frozen (((a : Int) - k + m).toNat * 2)
          have p1 := hI.frozen (((a : Int) - k + m).toNat * 2 + 1)
          have hg := hI.lt
          have hbd := bdP_at (inSt_bd HE.out HE2.out (outSt_bd HE.out HE2.out m k) (by omega) a) hJ
          have hpr := prod_bd (stream_at HE.out k) (stream_at HE2.out a)
          rw [getD_lt _ _ hlt, getD_lt _ _ hay] at hpr
          have hI2 := (blkP_set hI hJ (((inSt xs ys m k (outSt xs ys m k) a).getD ((a : Int) - k + m).toNat (0, 0)).1 + xs[k] * ys[a], ((inSt xs ys m k (outSt xs ys m k) a).getD ((a : Int) - k + m).toNat (0, 0)).2 + 1)).drew
          have eJ : ((a : Int) - k + m).toNat = a + m - k := by omega
          have hn := inSt_yes (o := outSt xs ys m k) (hits_yes (m := m) (by rw [getD_lt _ _ hlt]; exact HZ.out) (by rw [getD_lt _ _ hay]; exact HY.out) (show k ≤ a + m by omega) g2)
          unfold upd at hn
          rw [← eJ, getD_lt xs _ hlt, getD_lt ys _ hay] at hn
          rw [← hn] at hI2
          have HI2 := Lib.hid hI2
          clear hn eJ hI2
          obtain ⟨pr, hpe⟩ : ∃ pr, pr = (inSt xs ys m k (outSt xs ys m k) a).getD ((a : Int) - k + m).toNat (0, 0) := ⟨_, rfl⟩
          rw [← hpe] at o0 o1 hbd
          have HPE := Lib.hid hpe
          clear hpe
          go_wp2
          go_region
          all_goals go_wp2
          all_goals
            go_roundg (gk - 1)
            case rel => exact ⟨a + 1, by have := HA.out; omega, by go_num, by have h := HI2.out; rw [← HPE.out] at h; exact h, ((hbq.setCell (p := ⟨w.heap.size, ((a : Int) - k + m).toNat * 2, none⟩) (Nat.le_refl _) _).setCell (p := ⟨w.heap.size, ((a : Int) - k + m).toNat * 2 + 1, none⟩) (Nat.le_refl _) _).drew⟩
            case measure => have := HA.out; omega
        · have hal : a = ys.length := by omega
          have HAL := Lib.hid hal
          clear hal
          go_wp2
          go_roundg (gu - 1)
          case rel => exact ⟨k + 1, by have := HK.out; omega, by go_num, by rw [outSt, ← HAL.out]; exact hI, hbq⟩
          case measure => have := HK.out; omega
    · go_wp2
      go_ret2
      have hkl : k = xs.length := by omega
      rw [hkl] at hO
      exact RetQ.blk (ofSpec_ok HE.out HE2.out hm255) (lagCells_len _ _ _) (by unfold maxLen; omega) hO (Nat.le_refl _) hb
end Lagw
end Go.Proofs.Ytdekbncpodjgnaa
