/-
  Contracts: Turn, Phase, Signed, Center, Reduce of the reference.
-/
import Derived.Test.YtdcacklochaljaaFouI
import Derived.Deep.AppendLies
import Derived.Deep.RegionHeld3
namespace Go.Proofs.Ytdcacklochaljaa
open Go.RowKit Num
set_option linter.unusedVariables false

theorem back_cast {n D k : Nat} (h : 1 ≤ n) (hD : D < n) : ((k : Int) - (D : Int)) % (n : Int) = (backI n D k : Int) := by
  unfold backI
  rw [Int.natCast_emod, show ((k + n - D : Nat) : Int) = (k : Int) - D + n by omega, Int.add_emod_right]

set_option maxHeartbeats 1000000 in
theorem refTurn_any (p : Int) (A : Option Addr) (c : Nat) (l : List Int) (d : Int) (w : World) (hx : RI .i64 w A l) (hl : l.length ≤ 9223372036854775807) (hp1 : -9223372036854775808 ≤ p) (hp2 : p ≤ 9223372036854775807) (hd : -9223372036854775808 ≤ d ∧ d ≤ 9223372036854775807) :
    Calls Try.prog 12 #[.int .i64 p, .slice A l.length c, .int .i64 d] w (RetFE w (tuS p l d)) := by
  rcases chkL_cases p l with ⟨e0, P, rfl, hF⟩ | e0
  · have c0 : (chkL (P : Int) l != 0) = false := by rw [e0]; rfl
    have HS := Lib.hid (show tuS (P : Int) l d = (fullL (tuF l (rotD d l.length)) l.length, 0) by unfold tuS; rw [if_pos e0])
    have h1 := hF.l1
    have h2 := hF.l64
    have h4 := hF.le
    clear e0 hF
    obtain ⟨i0, hi0, hz0, hz1, hz2⟩ := info_int64
    have hD := rotD_lt d h1
    have hW := fun w => at_any d l.length w h1 (by omega) hd
    simp only [rotD_cast d h1] at hW
    have HW := Lib.hid hW
    clear hW
    generalize rotD d l.length = D at *
    go_enter Try.func12, Try.ntmps12
    go_wp2_with fail
    refine (refChk_any _ _ _ _ _ hx hl (by omega) (by omega)).mono ?_
    rintro _ w1 ⟨rfl, hb1⟩
    have hx1 := hx.keep hb1
    go_wp2
    go_loopg [8, 9] l.length (fun gk v i wr => ∃ k : Nat, k + gk = l.length ∧ i = .int .i64 k ∧ wr.ownsRow w1.heap.size 2 1 v k ((fullL (tuF l D) k).flatMap (encI .i64)) ∧ Below w1.heap.size w1 wr)
    case atStart => exact ⟨0, by omega, rfl, World.ownsRow_nil _ _ _ _, Below.refl _ _⟩
    case round =>
      obtain ⟨k, hk, rfl, hO, hb⟩ := hrel
      have hk' : k ≤ l.length := by omega
      have HK := Lib.hid hk
      clear hk
      have hsz := hb.size
      obtain ⟨A8, c8, rfl, hc8⟩ := own_shape' hO
      by_cases hlt : k < l.length
      · have hm := backI_lt (n := l.length) (D := D) (m := k) h1
        obtain ⟨b1, off1, rfl, hlw1, hc1⟩ := (hx1.keep hb).at2 (i := backI l.length D k) hm
        have HN := Lib.hid (show l.getD (backI l.length D k) 0 = tuF l D k from rfl)
        have hAt : ∀ wq : World, Calls Try.prog 32 #[.int .i64 ((k : Int) - (D : Int)), .int .i64 l.length] wq fun e w' => e = .returned (.int .i64 (backI l.length D k : Int)) ∧ wq = w' := by
          intro wq
          have := at_any ((k : Int) - (D : Int)) l.length wq h1 (by omega) (by omega)
          rw [back_cast h1 hD] at this
          exact this
        have HAT := Lib.hid hAt
        clear hAt
        generalize l.getD (backI l.length D k) 0 = X at *
        generalize backI l.length D k = m at *
        go_wp2_with fail
        refine (HW.out _).mono ?_
        rintro _ _ ⟨rfl, rfl⟩
        go_wp2_with fail
        refine (HAT.out _).mono ?_
        rintro _ _ ⟨rfl, rfl⟩
        go_wp2_with (at_builtin; refine wpList_append_own _ rfl _ _ 22 rfl w1.heap.size 2 i0 _ 1 8 Try.underlying22 hi0 hz0 hz1 hz2 rfl (by decide) _ k _ rfl (hO.alloc _) ⟨wr.heap.size, 0, none⟩ 1 1 (encI .i64 X) rfl rfl (encI_news _ _ _ _) (encI_one _ _) (by unfold maxLen; omega) (by omega) (by simp; omega) ?_; intro v2 w2 hown2 hgrow2 _)
        go_roundg (gk - 1)
        case rel => exact ⟨k + 1, by have := HK.out; omega, by go_num, by rw [fullL_succ, flat_snoc, ← HN.out]; exact hown2, own_below (hb.alloc hsz _) (hO.alloc _) hgrow2 (Nat.le_refl _) (by simp; omega)⟩
        case measure => have := HK.out; omega
      · obtain rfl : k = l.length := by omega
        go_wp2
        go_ret2
        exact RetFE.own HS.out (fullL_len _ _) (own_RI_at (fullL_len _ _) hO) (bstep hb1 hb)
  · have c0 : (chkL p l != 0) = true := by rw [bne_iff_ne]; exact e0
    have HS := Lib.hid (show tuS p l d = ([], chkL p l) by unfold tuS; rw [if_neg e0])
    clear e0
    go_enter Try.func12, Try.ntmps12
    go_wp2_with fail
    refine (refChk_any _ _ _ _ _ hx hl hp1 hp2).mono ?_
    rintro _ w1 ⟨rfl, hb1⟩
    go_wp2_with fail
    refine (refChk_any _ _ _ _ _ (hx.keep hb1) hl hp1 hp2).mono ?_
    rintro _ w2 ⟨rfl, hb2⟩
    go_wp2
    go_ret2
    exact RetFE.no HS.out (bstep hb1 hb2)

theorem center_any (P : Nat) (x : Int) (w : World) (hP : P ≤ 2000000000) (hx : 0 ≤ x ∧ x < P) :
    Calls Try.prog 36 #[.int .i64 P, .int .i64 x] w fun e w' => e = .returned (.int .i64 (if (P : Int) < 2 * x then x - P else x)) ∧ w = w' := by
  by_cases h : (P : Int) < 2 * x
  · rw [if_pos h]
    go_enter Try.func36, Try.ntmps36
    go_wp2
    go_ret
    exact ⟨rfl, rfl⟩
  · rw [if_neg h]
    have d1 : decide ((P : Int) < 2 * x) = false := decide_eq_false h
    go_enter Try.func36, Try.ntmps36
    go_wp2
    go_ret
    exact ⟨rfl, rfl⟩
set_option maxHeartbeats 1000000 in
theorem refSigned_any (p : Int) (A : Option Addr) (c : Nat) (l : List Int) (w : World) (hx : RI .i64 w A l) (hl : l.length ≤ 9223372036854775807) (hp1 : -9223372036854775808 ≤ p) (hp2 : p ≤ 9223372036854775807) :
    Calls Try.prog 16 #[.int .i64 p, .slice A l.length c] w (RetFE w (sgS p l)) := by
  rcases chkL_cases p l with ⟨e0, P, rfl, hF⟩ | e0
  · have c0 : (chkL (P : Int) l != 0) = false := by rw [e0]; rfl
    have HS := Lib.hid (show sgS (P : Int) l = (fullL (sgF P l) l.length, 0) by unfold sgS; rw [if_pos e0]; rfl)
    have h1 := hF.l1
    have h2 := hF.l64
    have h4 := hF.le
    have HF := Lib.hid hF
    clear e0 hF
    obtain ⟨i0, hi0, hz0, hz1, hz2⟩ := info_int64
    go_enter Try.func16, Try.ntmps16
    go_wp2_with fail
    refine (refChk_any _ _ _ _ _ hx hl (by omega) (by omega)).mono ?_
    rintro _ w1 ⟨rfl, hb1⟩
    have hx1 := hx.keep hb1
    go_wp2
    go_loopg [6, 7] l.length (fun gk v i wr => ∃ k : Nat, k + gk = l.length ∧ i = .int .i64 k ∧ wr.ownsRow w1.heap.size 2 1 v k ((fullL (sgF P l) k).flatMap (encI .i64)) ∧ Below w1.heap.size w1 wr)
    case atStart => exact ⟨0, by omega, rfl, World.ownsRow_nil _ _ _ _, Below.refl _ _⟩
    case round =>
      obtain ⟨k, hk, rfl, hO, hb⟩ := hrel
      have hk' : k ≤ l.length := by omega
      have HK := Lib.hid hk
      clear hk
      have hsz := hb.size
      obtain ⟨A8, c8, rfl, hc8⟩ := own_shape' hO
      by_cases hlt : k < l.length
      · obtain ⟨b1, off1, rfl, hlw1, hc1⟩ := (hx1.keep hb).at2 hlt
        have bx := HF.out.el k hlt
        have hC := fun w => center_any P (l.getD k 0) w h4 bx
        have hC' : ∀ w : World, Calls Try.prog 36 #[.int .i64 P, .int .i64 (l.getD k 0)] w fun e w' => e = .returned (.int .i64 (sgF P l k)) ∧ w = w' := hC
        have HC := Lib.hid hC'
        clear hC hC'
        generalize hY : sgF P l k = Y at *
        have HY := Lib.hid hY
        clear hY
        generalize l.getD k 0 = X at *
        go_wp2_with fail
        refine (HC.out _).mono ?_
        rintro _ _ ⟨rfl, rfl⟩
        go_wp2_with (at_builtin; refine wpList_append_own _ rfl _ _ 22 rfl w1.heap.size 2 i0 _ 1 8 Try.underlying22 hi0 hz0 hz1 hz2 rfl (by decide) _ k _ rfl (hO.alloc _) ⟨wr.heap.size, 0, none⟩ 1 1 (encI .i64 Y) rfl rfl (encI_news _ _ _ _) (encI_one _ _) (by unfold maxLen; omega) (by omega) (by simp; omega) ?_; intro v2 w2 hown2 hgrow2 _)
        go_roundg (gk - 1)
        case rel => exact ⟨k + 1, by have := HK.out; omega, by go_num, by rw [fullL_succ, flat_snoc, HY.out]; exact hown2, own_below (hb.alloc hsz _) (hO.alloc _) hgrow2 (Nat.le_refl _) (by simp; omega)⟩
        case measure => have := HK.out; omega
      · obtain rfl : k = l.length := by omega
        go_wp2
        go_ret2
        exact RetFE.own HS.out (fullL_len _ _) (own_RI_at (fullL_len _ _) hO) (bstep hb1 hb)
  · have c0 : (chkL p l != 0) = true := by rw [bne_iff_ne]; exact e0
    have HS := Lib.hid (show sgS p l = ([], chkL p l) by unfold sgS; rw [if_neg e0])
    clear e0
    go_enter Try.func16, Try.ntmps16
    go_wp2_with fail
    refine (refChk_any _ _ _ _ _ hx hl hp1 hp2).mono ?_
    rintro _ w1 ⟨rfl, hb1⟩
    go_wp2_with fail
    refine (refChk_any _ _ _ _ _ (hx.keep hb1) hl hp1 hp2).mono ?_
    rintro _ w2 ⟨rfl, hb2⟩
    go_wp2
    go_ret2
    exact RetFE.no HS.out (bstep hb1 hb2)

set_option maxHeartbeats 1000000 in
theorem refReduce_any (p : Int) (A : Option Addr) (c : Nat) (l : List Int) (w : World) (hx : RI .i64 w A l) (hl : l.length ≤ 9223372036854775807) (hp1 : -9223372036854775808 ≤ p) (hp2 : p ≤ 9223372036854775807) :
    Calls Try.prog 18 #[.int .i64 p, .slice A l.length c] w (RetFE w (rdS p l)) := by
  rcases ok_cases p with ⟨e0, e1, P, rfl, h2, h3, hP⟩ | ⟨e0, e1⟩
  · have c0 : (chkE (P : Int) != 0) = false := by rw [e0]; rfl
    clear e0 hP
    by_cases hlen : 1000 < l.length
    · have d1 : decide (1000 < l.length) = true := decide_eq_true hlen
      have HS := Lib.hid (show rdS (P : Int) l = ([], 4) by unfold rdS; rw [if_pos e1, if_pos hlen])
      go_enter Try.func18, Try.ntmps18
      go_wp2_with fail
      refine (refCheck_any _ _ (by omega) (by omega)).mono ?_
      rintro _ w1 ⟨rfl, hb1⟩
      go_wp2
      go_ret2
      exact RetFE.no HS.out hb1
    · have d1 : decide (1000 < l.length) = false := decide_eq_false hlen
      obtain ⟨i0, hi0, hz0, hz1, hz2⟩ := info_int64
      go_enter Try.func18, Try.ntmps18
      go_wp2_with fail
      refine (refCheck_any _ _ (by omega) (by omega)).mono ?_
      rintro _ w1 ⟨rfl, hb1⟩
      have hx1 := hx.keep hb1
      go_wp2
      go_loopg [6] l.length (fun gk i wr => ∃ k : Nat, k + gk = l.length ∧ i = .int .i64 k ∧ wr = w1 ∧ Hid (∀ j, j < k → -(P : Int) ≤ l.getD j 0 ∧ l.getD j 0 ≤ P))
      case atStart => exact ⟨0, by omega, rfl, rfl, Lib.hid (by intro j hj; omega)⟩
      case round =>
        obtain ⟨k, hk, rfl, hw, HA⟩ := hrel
        replace hw := hw.symm
        subst hw
        have hk' : k ≤ l.length := by omega
        have HK := Lib.hid hk
        clear hk
        by_cases hlt : k < l.length
        · obtain ⟨b1, off1, rfl, hlw1, hc1⟩ := hx1.at2 hlt
          have HB := Lib.hid (fun (h : l.getD k 0 < -(P : Int) ∨ (P : Int) < l.getD k 0) => show rdS (P : Int) l = ([], 8) by
            unfold rdS; rw [if_pos e1, if_neg hlen, if_pos (any2_true hlt h)])
          have HG := Lib.hid (fun (h : -(P : Int) ≤ l.getD k 0 ∧ l.getD k 0 ≤ P) => show ∀ j, j < k + 1 → -(P : Int) ≤ l.getD j 0 ∧ l.getD j 0 ≤ P from all_lt_succ HA.out h)
          generalize l.getD k 0 = x at *
          rcases (show x < -(P : Int) ∨ (-(P : Int) ≤ x ∧ (P : Int) < x) ∨ (-(P : Int) ≤ x ∧ x ≤ P) by omega) with hx1' | ⟨hx1', hx2⟩ | ⟨hx1', hx2⟩
          · have HE := Lib.hid (HB.out (by omega))
            go_wp2
            go_ret2
            exact RetFE.no HE.out hb1
          · have HE := Lib.hid (HB.out (by omega))
            go_wp2
            go_ret2
            exact RetFE.no HE.out hb1
          · have HE := Lib.hid (HG.out (by omega))
            go_wp2
            go_roundg (gk - 1)
            case rel => exact ⟨k + 1, by have := HK.out; omega, by go_num, rfl, HE⟩
            case measure => have := HK.out; omega
        · have HAL : Hid (∀ j, j < l.length → -(P : Int) ≤ l.getD j 0 ∧ l.getD j 0 ≤ P) := Lib.hid (fun j hj => HA.out j (by omega))
          have HS := Lib.hid (show rdS (P : Int) l = (fullL (rdF P l) l.length, 0) by
            unfold rdS; rw [if_pos e1, if_neg hlen, any2_false HAL.out]; rfl)
          clear HA HK
          go_wp2
          go_loopg [7, 8] l.length (fun gk v i wr => ∃ k : Nat, k + gk = l.length ∧ i = .int .i64 k ∧ wr.ownsRow w1.heap.size 2 1 v k ((fullL (rdF P l) k).flatMap (encI .i64)) ∧ Below w1.heap.size w1 wr)
          case atStart => exact ⟨0, by omega, rfl, World.ownsRow_nil _ _ _ _, Below.refl _ _⟩
          case round =>
            obtain ⟨k2, hk2, rfl, hO, hb⟩ := hrel
            have hk2' : k2 ≤ l.length := by omega
            have HK := Lib.hid hk2
            clear hk2
            have hsz := hb.size
            obtain ⟨A8, c8, rfl, hc8⟩ := own_shape' hO
            by_cases hlt2 : k2 < l.length
            · obtain ⟨b1, off1, rfl, hlw1, hc1⟩ := (hx1.keep hb).at2 hlt2
              have bx := HAL.out k2 hlt2
              have HN := Lib.hid (show l.getD k2 0 % (P : Int) = rdF P l k2 from rfl)
              generalize l.getD k2 0 = X at *
              go_wp2_with (at_builtin; refine wpList_append_own _ rfl _ _ 22 rfl w1.heap.size 2 i0 _ 1 8 Try.underlying22 hi0 hz0 hz1 hz2 rfl (by decide) _ k2 _ rfl (hO.alloc _) ⟨wr.heap.size, 0, none⟩ 1 1 (encI .i64 (X % (P : Int))) rfl rfl (encI_news _ _ _ _) (encI_one _ _) (by unfold maxLen; omega) (by omega) (by simp; omega) ?_; intro v2 w2 hown2 hgrow2 _)
              go_roundg (gk - 1)
              case rel => exact ⟨k2 + 1, by have := HK.out; omega, by go_num, by rw [fullL_succ, flat_snoc, ← HN.out]; exact hown2, own_below (hb.alloc hsz _) (hO.alloc _) hgrow2 (Nat.le_refl _) (by simp; omega)⟩
              case measure => have := HK.out; omega
            · obtain rfl : k2 = l.length := by omega
              go_wp2
              go_ret2
              exact RetFE.own HS.out (fullL_len _ _) (own_RI_at (fullL_len _ _) hO) (bstep hb1 hb)
  · have c0 : (chkE p != 0) = true := by rw [e0]; rfl
    have HS := Lib.hid (show rdS p l = ([], 2) by unfold rdS; rw [e1]; rfl)
    clear e0
    go_enter Try.func18, Try.ntmps18
    go_wp2_with fail
    refine (refCheck_any _ _ hp1 hp2).mono ?_
    rintro _ w1 ⟨rfl, hb1⟩
    go_wp2
    go_ret2
    exact RetFE.no HS.out hb1
end Go.Proofs.Ytdcacklochaljaa
