/-
  Contract: lag.Of.
-/
import Derived.Test.YtfmhliiljmcejaaLagE
import Derived.Test.YtfmhliiljmcejaaLagOfP
namespace Go.Proofs.Ytfmhliiljmcejaa
open Go.RowKit
set_option linter.unusedVariables false

theorem RI.at2 {k : IntKind} {w : World} {A : Option Addr} {xs : List Int} {i : Nat} (h : RI k w A xs) (hi : i < xs.length) :
    ∃ b off, A = some ⟨b, off, none⟩ ∧ b < w.heap.size ∧ w.cell? ⟨b, off + i, none⟩ = some (.int k (xs.getD i 0)) := by
  obtain ⟨b, off, e, h1, hc⟩ := h (by omega)
  exact ⟨b, off, e, h1, hc i hi⟩
set_option maxRecDepth 100000 in
set_option maxHeartbeats 4000000 in
theorem lagOf_any (A B : Option Addr) (c d : Nat) (xs ys : List Int) (most : Int) (w : World) (hx : RI .i64 w A xs) (hy : RI .i64 w B ys) (hl : xs.length ≤ 140737488355328) (hl2 : ys.length ≤ 140737488355328) :
    Calls Try.prog 11 #[.slice A xs.length c, .slice B ys.length d, .int .i64 most] w (RetP w (ofSpec xs ys most)) := by
  rcases (Decidable.em (streamErr xs = 0)).symm with he | he
  · have e1 : (streamErr xs != 0) = true := by simp [he]
    have HE := Lib.hid he
    clear he
    go_enter Try.func11, Try.ntmps11
    go_wp2_with (go_at_call 30; refine (sampleCheck_any _ _ _ _ hx hl).mono ?_; rintro e w' ⟨rfl, rfl⟩)
    go_ret2
    exact RetP.nil (ofSpec_x HE.out) (Below.refl _ _)
  have e1 : (streamErr xs != 0) = false := by simp [he]
  have HE := Lib.hid he
  have hl5 := (streamErr_zero he).1
  clear he
  rcases (Decidable.em (streamErr ys = 0)).symm with he | he
  · have e2 : (streamErr ys != 0) = true := by simp [he]
    have HE2 := Lib.hid he
    clear he
    go_enter Try.func11, Try.ntmps11
    go_wp2_with fail
    refine (sampleCheck_any _ _ _ _ hx hl).mono ?_
    rintro e w' ⟨rfl, rfl⟩
    go_wp2_with fail
    refine (sampleCheck_any _ _ _ _ hy hl2).mono ?_
    rintro e w' ⟨rfl, rfl⟩
    go_wp2
    go_ret2
    exact RetP.nil (ofSpec_y HE.out HE2.out) (Below.refl _ _)
  have e2 : (streamErr ys != 0) = false := by simp [he]
  have HE2 := Lib.hid he
  have hl6 := (streamErr_zero he).1
  clear he
  rcases (Decidable.em (most < 0)) with hm | hm
  · go_enter Try.func11, Try.ntmps11
    go_wp2_with fail
    refine (sampleCheck_any _ _ _ _ hx hl).mono ?_
    rintro e w' ⟨rfl, rfl⟩
    go_wp2_with fail
    refine (sampleCheck_any _ _ _ _ hy hl2).mono ?_
    rintro e w' ⟨rfl, rfl⟩
    go_wp2
    go_ret2
    exact RetP.nil (ofSpec_m HE.out HE2.out (.inl hm)) (Below.refl _ _)
  rcases (Decidable.em (255 < most)) with hm2 | hm2
  · go_enter Try.func11, Try.ntmps11
    go_wp2_with fail
    refine (sampleCheck_any _ _ _ _ hx hl).mono ?_
    rintro e w' ⟨rfl, rfl⟩
    go_wp2_with fail
    refine (sampleCheck_any _ _ _ _ hy hl2).mono ?_
    rintro e w' ⟨rfl, rfl⟩
    go_wp2
    go_ret2
    exact RetP.nil (ofSpec_m HE.out HE2.out (.inr hm2)) (Below.refl _ _)
  obtain ⟨m, rfl⟩ : ∃ m : Nat, most = (m : Int) := ⟨most.toNat, by omega⟩
  have hm255 : m ≤ 255 := by omega
  have dm1 : decide ((m : Int) < 0) = false := by simp
  have dm2 : decide (255 < (m : Int)) = false := by simpa using hm2
  clear hm hm2
  obtain ⟨i0, hi0, hz0, hz1, hz2⟩ := info_parts info_lag
  have hmk := mk_row (P := Try.prog) 24 39 Try.underlying24 hi0 hz0 hz1 hz2 encP encP_len (by omega) (0, 0) rfl (2 * m + 1) (by omega) (by omega)
  have ec : ((2 * m + 1 : Nat) : Int) = 2 * (m : Int) + 1 := by omega
  rw [ec] at hmk
  clear ec
  go_enter Try.func11, Try.ntmps11
  go_wp2_with fail
  refine (sampleCheck_any _ _ _ _ hx hl).mono ?_
  rintro e w' ⟨rfl, rfl⟩
  go_wp2_with fail
  refine (sampleCheck_any _ _ _ _ hy hl2).mono ?_
  rintro e w' ⟨rfl, rfl⟩
  go_wp2
  go_loopg [11, 12, 35] xs.length (fun gk _ _ i wr => ∃ k : Nat, k + gk = xs.length ∧ i = .int .i64 k ∧ Blk wr w.heap.size 39 ((outSt xs ys m k).flatMap encP).toArray ∧ Below w.heap.size w wr)
  case atStart => exact ⟨0, by omega, rfl, Blk.new w 39 _, balloc (Below.refl _ _) _⟩
  case round =>
    obtain ⟨k, hk, rfl, hO, hb⟩ := hrel
    have hk' : k ≤ xs.length := by omega
    have HK := Lib.hid hk
    clear hk
    by_cases hlt : k < xs.length
    · obtain ⟨b1, off1, rfl, hlw1, hcw⟩ := hx.at2 hlt
      rw [getD_lt _ _ hlt] at hcw
      have hc := (hb.cell (p := ⟨b1, off1 + k, none⟩) hlw1).trans hcw
      by_cases hz : xs[k] = 0
      · have ez : (xs[k] == 0) = true := by simp [hz]
        have HZ := Lib.hid hz
        clear hz
        go_wp2
        go_roundg (gk - 1)
        case rel => exact ⟨k + 1, by have := HK.out; omega, by go_num, by rw [outSt, inSt_skip (a := 0) (Nat.zero_le _) (fun j _ _ => hits_x (by rw [getD_lt _ _ hlt]; exact HZ.out)), inSt]; exact hO, hb⟩
        case measure => have := HK.out; omega
      · have ez : (xs[k] == 0) = false := by simp [hz]
        have HZ := Lib.hid hz
        clear hz
        obtain ⟨wo, rfl⟩ : ∃ wo : World, wo = wr := ⟨_, rfl⟩
        obtain ⟨gu, rfl⟩ : ∃ gu : Nat, gu = gk := ⟨_, rfl⟩
        have hyo := hy.keep hb
        go_wp2
        all_goals
          go_loopg [12] (600 - (k - m)) (fun ga s12 wq => ∃ a : Nat, a + ga = 600 ∧ a ≤ 256 ∧ s12 = .int .i64 a ∧ k - m ≤ a ∧ Blk wq w.heap.size 39 ((inSt xs ys m k (outSt xs ys m k) a).flatMap encP).toArray ∧ Below w.heap.size w wq)
          case atStart =>
            refine ⟨k - m, by omega, by omega, by first | rfl | go_num | (congr 1; omega), Nat.le_refl _, ?_, hb⟩
            rw [inSt_skip (a := 0) (Nat.zero_le _) (fun j _ h => hits_far (.inl (by omega))), inSt]
            exact hO
          case round =>
            obtain ⟨a, ha, ha256, rfl, hka, hI, hbq⟩ := hrel
            have HA := Lib.hid ha
            clear ha
            by_cases hin : a < ys.length ∧ a ≤ k + m
            · obtain ⟨hay, hakm⟩ := hin
              obtain ⟨b2, off2, rfl, hd⟩ := (hy.keep hbq).at_ hay
              rw [getD_lt _ _ hay] at hd
              have hc' := (hbq.cell (p := ⟨b1, off1 + k, none⟩) hlw1).trans hcw
              by_cases hyz : ys[a] = 0
              · have ey : (ys[a] != 0) = false := by simp [hyz]
                have HY := Lib.hid hyz
                clear hyz
                go_wp2
                all_goals
                  go_roundg (gk - 1)
                  case rel => exact ⟨a + 1, by have := HA.out; omega, by omega, by go_num, by omega, by rw [inSt_no (hits_y (by rw [getD_lt _ _ hay]; exact HY.out))]; exact hI, hbq⟩
                  case measure => have := HA.out; omega
              · have ey : (ys[a] != 0) = true := by simp [hyz]
                have HY := Lib.hid hyz
                clear hyz
                have hJ : ((a : Int) - k + m).toNat < (inSt xs ys m k (outSt xs ys m k) a).length := by rw [inSt_len, outSt_len]; omega
                obtain ⟨o0, o1⟩ := blkP_at hI hJ
                have p0 := hI.frozen (((a : Int) - k + m).toNat * 2)
                have p1 := hI.frozen (((a : Int) - k + m).toNat * 2 + 1)
                have hg := hI.lt
                have hbd := bdP_at (inSt_bd HE.out HE2.out (outSt_bd HE.out HE2.out m k) (by omega) a) hJ
                have hpr := prod_bd (stream_at HE.out k) (stream_at HE2.out a)
                rw [getD_lt _ _ hlt, getD_lt _ _ hay] at hpr
                have hI2 := (blkP_set hI hJ (((inSt xs ys m k (outSt xs ys m k) a).getD ((a : Int) - k + m).toNat (0, 0)).1 + xs[k] * ys[a], ((inSt xs ys m k (outSt xs ys m k) a).getD ((a : Int) - k + m).toNat (0, 0)).2 + 1)).drew
                have eJ : ((a : Int) - k + m).toNat = a + m - k := by omega
                have hn := inSt_yes (o := outSt xs ys m k) (hits_yes (m := m) (by rw [getD_lt _ _ hlt]; exact HZ.out) (by rw [getD_lt _ _ hay]; exact HY.out) (show k ≤ a + m by omega) hakm)
                unfold upd at hn
                rw [← eJ, getD_lt xs _ hlt, getD_lt ys _ hay] at hn
                rw [← hn] at hI2
                have HN := Lib.hid hn
                have EJ := Lib.hid eJ
                have HI2 := Lib.hid hI2
                clear hn eJ hI2
                obtain ⟨pr, hpe⟩ : ∃ pr, pr = (inSt xs ys m k (outSt xs ys m k) a).getD ((a : Int) - k + m).toNat (0, 0) := ⟨_, rfl⟩
                rw [← hpe] at o0 o1 hbd
                have HPE := Lib.hid hpe
                clear hpe
                go_wp2
                all_goals
                  go_region
                  all_goals go_wp2
                  all_goals
                    go_roundg (gk - 1)
                    case rel => exact ⟨a + 1, by have := HA.out; omega, by omega, by go_num, by omega, by have h := HI2.out; rw [← HPE.out] at h; exact h, ((hbq.setCell (p := ⟨w.heap.size, ((a : Int) - k + m).toNat * 2, none⟩) (Nat.le_refl _) _).setCell (p := ⟨w.heap.size, ((a : Int) - k + m).toNat * 2 + 1, none⟩) (Nat.le_refl _) _).drew⟩
                    case measure => have := HA.out; omega
            · have hfin : ys.length ≤ a ∨ k + m < a := by omega
              go_wp2
              all_goals
                go_roundg (gu - 1)
                case rel => exact ⟨k + 1, by have := HK.out; omega, by go_num, by rw [outSt, ← inSt_fin hfin]; exact hI, hbq⟩
                case measure => have := HK.out; omega
    · go_wp2
      go_ret2
      have hkl : k = xs.length := by omega
      rw [hkl] at hO
      exact RetP.blk (ofSpec_ok HE.out HE2.out hm255) (lagCells_len _ _ _) (by unfold maxLen; omega) hO (Nat.le_refl _) hb
end Go.Proofs.Ytfmhliiljmcejaa
