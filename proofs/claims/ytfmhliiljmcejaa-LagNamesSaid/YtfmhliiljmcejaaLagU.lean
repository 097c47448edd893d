/-
  The walk of LagTurns.
-/
import Derived.Test.YtfmhliiljmcejaaLagTotalW
namespace Go.Proofs.Ytfmhliiljmcejaa
open Go.RowKit
set_option linter.unusedVariables false

theorem lagOf_val {A B : Option Addr} {c d m : Nat} {w : World} {xs ys : List Int} (he : streamErr xs = 0) (he2 : streamErr ys = 0) (hm : m ≤ 255) (hx : RI .i64 w A xs) (hy : RI .i64 w B ys) :
    Calls Try.prog 11 #[.slice A xs.length c, .slice B ys.length d, .int .i64 (m : Int)] w fun e w' => ∃ A' c', e = .returned (.tuple #[.slice A' (2 * m + 1) c', .int .i64 0]) ∧ RL w' A' (lagCells xs ys m) ∧ Below w.heap.size w w' := by
  have hl5 := (streamErr_zero he).1
  have hl6 := (streamErr_zero he2).1
  have h := lagOf_any A B c d xs ys (m : Int) w hx hy (by omega) (by omega)
  rw [ofSpec_ok he he2 hm] at h
  refine h.mono ?_
  rintro e w' ⟨A', c', rfl, ho, hb⟩
  refine ⟨A', c', ?_, own_RL ho, hb⟩
  simp only [lagCells_len]
theorem lagFlip_at {A : Option Addr} {c n : Nat} {w : World} (l r : List (Int × Int)) (h1 : l.length = n) (h2 : flipSpec l = (r, 0)) (hr : r.length = n) (hx : RL w A l) (hl : n ≤ 140737488355328) :
    Calls Try.prog 24 #[.slice A n c] w fun e w' => ∃ A' c', e = .returned (.tuple #[.slice A' n c', .int .i64 0]) ∧ RL w' A' r ∧ Below w.heap.size w w' := by
  subst h1
  have h := lagFlip_any A c l w hx hl
  rw [h2] at h
  refine h.mono ?_
  rintro e w' ⟨A', c', rfl, ho, hb⟩
  refine ⟨A', c', ?_, own_RL ho, hb⟩
  simp only [hr]

theorem all_take {xs : List Int} {k : Nat} (h : k < xs.length) : (xs.take (k + 1)).all (fun x => x == 0) = ((xs.take k).all (fun x => x == 0) && (xs[k] == 0)) := by
  rw [List.take_succ_eq_append_getElem h, List.all_append, List.all_cons, List.all_nil, Bool.and_true]
set_option maxRecDepth 100000 in
set_option maxHeartbeats 4000000 in
theorem lagTurns_walk (A : Option Addr) (c : Nat) (xs : List Int) (B : Option Addr) (d : Nat) (ys : List Int) (most : Int) (w : World)
    (hx : RI .i64 w A xs) (hlx : xs.length ≤ 9223372036854775807) (_ : ∀ x ∈ xs, (Lit.int .i64 x).wf = true) (hy : RI .i64 w B ys) (hly : ys.length ≤ 9223372036854775807) (_ : ∀ x ∈ ys, (Lit.int .i64 x).wf = true) (_ : -9223372036854775808 ≤ most ∧ most ≤ 9223372036854775807) :
    Calls Try.prog 7 #[.slice A xs.length c, .slice B ys.length d, .int .i64 most] w fun e w' => e = .returned (.bool true) ∧ Below w.heap.size w w' := by
  rcases (Decidable.em (streamErr xs = 0)).symm with he | he
  · have e1 : (streamErr xs == 0) = false := by simp [he]
    clear he
    go_enter Try.func7, Try.ntmps7
    go_wp2_with fail
    refine (alive16 _).mono ?_
    rintro e w1 ⟨rfl, hb1⟩
    go_wp2_with (go_at_call 29; refine (fit16_any _ _ _ _ (hx.keep hb1) hlx).mono ?_; rintro e w' ⟨rfl, rfl⟩)
    go_ret
    exact ⟨rfl, hb1⟩
  have e1 : (streamErr xs == 0) = true := by simp [he]
  have HE := Lib.hid he
  have hl5 := (streamErr_zero he).1
  clear he
  rcases (Decidable.em (streamErr ys = 0)).symm with he | he
  · have e2 : (streamErr ys == 0) = false := by simp [he]
    clear he
    go_enter Try.func7, Try.ntmps7
    go_wp2_with fail
    refine (alive16 _).mono ?_
    rintro e w1 ⟨rfl, hb1⟩
    go_wp2_with fail
    refine (fit16_any _ _ _ _ (hx.keep hb1) hlx).mono ?_
    rintro e w' ⟨rfl, rfl⟩
    go_wp2_with fail
    refine (fit16_any _ _ _ _ (hy.keep hb1) hly).mono ?_
    rintro e w' ⟨rfl, rfl⟩
    go_wp2
    go_ret
    exact ⟨rfl, hb1⟩
  have e2 : (streamErr ys == 0) = true := by simp [he]
  have HE2 := Lib.hid he
  have hl6 := (streamErr_zero he).1
  clear he
  rcases (Decidable.em (0 ≤ most ∧ most ≤ 255)).symm with hm | hm
  · have hm' : most < 0 ∨ 255 < most := by omega
    clear hm
    rcases hm' with hm | hm
    all_goals
      go_enter Try.func7, Try.ntmps7
      go_wp2_with fail
      refine (alive16 _).mono ?_
      rintro e w1 ⟨rfl, hb1⟩
      go_wp2_with fail
      refine (fit16_any _ _ _ _ (hx.keep hb1) hlx).mono ?_
      rintro e w' ⟨rfl, rfl⟩
      go_wp2_with fail
      refine (fit16_any _ _ _ _ (hy.keep hb1) hly).mono ?_
      rintro e w' ⟨rfl, rfl⟩
      go_wp2
      go_ret
      exact ⟨rfl, hb1⟩
  obtain ⟨m, rfl⟩ : ∃ m : Nat, most = (m : Int) := ⟨most.toNat, by omega⟩
  have hm255 : m ≤ 255 := by omega
  have dm1 : decide ((m : Int) < 0) = false := by simp
  have dm2 : decide (255 < (m : Int)) = false := by simp; omega
  clear hm
  go_enter Try.func7, Try.ntmps7
  go_wp2_with fail
  refine (alive16 _).mono ?_
  rintro e w1 ⟨rfl, hb1⟩
  go_wp2_with fail
  refine (fit16_any _ _ _ _ (hx.keep hb1) hlx).mono ?_
  rintro e w' ⟨rfl, rfl⟩
  go_wp2_with fail
  refine (fit16_any _ _ _ _ (hy.keep hb1) hly).mono ?_
  rintro e w' ⟨rfl, rfl⟩
  go_wp2_with fail
  refine (lagOf_val HE.out HE2.out hm255 (hx.keep hb1) (hy.keep hb1)).mono ?_
  rintro e w2 ⟨A2, c2, rfl, hL2, hb2⟩
  have hB2 := bstep hb1 hb2
  clear hb2
  go_wp2_with fail
  refine (lagOf_val HE2.out HE.out hm255 (hy.keep hB2) (hx.keep hB2)).mono ?_
  rintro e w3 ⟨A3, c3, rfl, hL3, hb3⟩
  have hB3 := bstep hB2 hb3
  replace hL2 := hL2.keep hb3
  clear hb3 hB2
  go_wp2_with fail
  refine (lagFlip_at (lagCells ys xs m) (lagCells xs ys m) (lagCells_len _ _ _) (by rw [flipSpec_ok (lagErr_cells HE2.out HE.out hm255), flip_law]) (lagCells_len _ _ _) hL3 (by omega)).mono ?_
  rintro e w4 ⟨A4, c4, rfl, hL4, hb4⟩
  have hB4 := bstep hB3 hb4
  replace hL2 := hL2.keep hb4
  clear hb4 hB3 hL3
  go_wp2_with fail
  refine (lagOf_val HE.out HE.out hm255 (hx.keep hB4) (hx.keep hB4)).mono ?_
  rintro e w5 ⟨A5, c5, rfl, hL5, hb5⟩
  have hB5 := bstep hB4 hb5
  replace hL2 := hL2.keep hb5
  replace hL4 := hL4.keep hb5
  clear hb5 hB4
  go_wp2_with fail
  have hpk := peak_law HE.out hm255
  by_cases hz : xs.all (fun x => x == 0) = true
  · rw [if_pos hz] at hpk
    have HP := Lib.hid hpk
    have hz' : xs.all (fun x => x == 0) = true := by simpa using hz
    have HZ := Lib.hid hz'
    clear hpk hz hz'
    refine (lagPeak_at (lagCells xs xs m) 0 18 (lagCells_len _ _ _) HP.out hL5 (by omega)).mono ?_
    rintro e w6 ⟨rfl, hb6⟩
    have hB6 := bstep hB5 hb6
    replace hL2 := hL2.keep hb6
    replace hL4 := hL4.keep hb6
    clear hb6 hB5 hL5
    go_wp2_with fail
    refine (same16_at (lagCells xs ys m) (lagCells xs ys m) true (lagCells_len _ _ _) (lagCells_len _ _ _) (by simp) hL2 hL4 (by omega) (by omega)).mono ?_
    rintro e w7 ⟨rfl, q7, rfl⟩
    replace hB6 := below_drewN hB6 q7
    obtain ⟨w7, hw7⟩ : ∃ w7, w7 = w6.drewN q7 := ⟨_, rfl⟩
    rw [← hw7] at hB6 ⊢
    clear hw7 hL2 hL4
    have ecast : ((2 * m + 1 : Nat) : Int) = 2 * (m : Int) + 1 := by omega
    go_wp2
    go_loopg [18, 19] xs.length (fun gk s1 s2 wr => ∃ (k : Nat) (zb : Bool), k + gk = xs.length ∧ s2 = .int .i64 k ∧ s1 = .bool zb ∧ Hid (zb = (xs.take k).all (fun x => x == 0)) ∧ w7 = wr)
    case atStart => exact ⟨0, true, by omega, rfl, rfl, Lib.hid (by simp), rfl⟩
    case round =>
      obtain ⟨k, zb, hk, rfl, rfl, hzb, rfl⟩ := hrel
      have hk' : k ≤ xs.length := by omega
      have HK := Lib.hid hk
      clear hk
      by_cases hlt : k < xs.length
      · obtain ⟨b, off, rfl, hc⟩ := (hx.keep hB6).at_ hlt
        have HSN := Lib.hid (all_take hlt)
        cases zb with
        | true =>
          go_wp2
          go_roundg (gk - 1)
          case rel => exact ⟨k + 1, _, by have := HK.out; omega, by go_num, rfl, Lib.hid (by rw [HSN.out, ← hzb.out]; simp), rfl⟩
          case measure => have := HK.out; omega
        | false =>
          go_wp2
          go_roundg (gk - 1)
          case rel => exact ⟨k + 1, _, by have := HK.out; omega, by go_num, rfl, Lib.hid (by rw [HSN.out, ← hzb.out]; simp), rfl⟩
          case measure => have := HK.out; omega
      · obtain rfl : k = xs.length := by omega
        have hzf : zb = true := by
          have h := hzb.out
          rw [List.take_length, HZ.out] at h
          exact h
        subst hzf
        go_wp2
        go_ret
        exact ⟨by simp, hB6⟩
  · rw [if_neg hz] at hpk
    have HP := Lib.hid hpk
    have hz' : xs.all (fun x => x == 0) = false := by simpa using hz
    have HZ := Lib.hid hz'
    clear hpk hz hz'
    refine (lagPeak_at (lagCells xs xs m) 0 0 (lagCells_len _ _ _) HP.out hL5 (by omega)).mono ?_
    rintro e w6 ⟨rfl, hb6⟩
    have hB6 := bstep hB5 hb6
    replace hL2 := hL2.keep hb6
    replace hL4 := hL4.keep hb6
    clear hb6 hB5 hL5
    go_wp2_with fail
    refine (same16_at (lagCells xs ys m) (lagCells xs ys m) true (lagCells_len _ _ _) (lagCells_len _ _ _) (by simp) hL2 hL4 (by omega) (by omega)).mono ?_
    rintro e w7 ⟨rfl, q7, rfl⟩
    replace hB6 := below_drewN hB6 q7
    obtain ⟨w7, hw7⟩ : ∃ w7, w7 = w6.drewN q7 := ⟨_, rfl⟩
    rw [← hw7] at hB6 ⊢
    clear hw7 hL2 hL4
    have ecast : ((2 * m + 1 : Nat) : Int) = 2 * (m : Int) + 1 := by omega
    go_wp2
    go_loopg [18, 19] xs.length (fun gk s1 s2 wr => ∃ (k : Nat) (zb : Bool), k + gk = xs.length ∧ s2 = .int .i64 k ∧ s1 = .bool zb ∧ Hid (zb = (xs.take k).all (fun x => x == 0)) ∧ w7 = wr)
    case atStart => exact ⟨0, true, by omega, rfl, rfl, Lib.hid (by simp), rfl⟩
    case round =>
      obtain ⟨k, zb, hk, rfl, rfl, hzb, rfl⟩ := hrel
      have hk' : k ≤ xs.length := by omega
      have HK := Lib.hid hk
      clear hk
      by_cases hlt : k < xs.length
      · obtain ⟨b, off, rfl, hc⟩ := (hx.keep hB6).at_ hlt
        have HSN := Lib.hid (all_take hlt)
        cases zb with
        | true =>
          go_wp2
          go_roundg (gk - 1)
          case rel => exact ⟨k + 1, _, by have := HK.out; omega, by go_num, rfl, Lib.hid (by rw [HSN.out, ← hzb.out]; simp), rfl⟩
          case measure => have := HK.out; omega
        | false =>
          go_wp2
          go_roundg (gk - 1)
          case rel => exact ⟨k + 1, _, by have := HK.out; omega, by go_num, rfl, Lib.hid (by rw [HSN.out, ← hzb.out]; simp), rfl⟩
          case measure => have := HK.out; omega
      · obtain rfl : k = xs.length := by omega
        have hzf : zb = false := by
          have h := hzb.out
          rw [List.take_length, HZ.out] at h
          exact h
        subst hzf
        go_wp2
        go_ret
        exact ⟨by simp, hB6⟩
end Go.Proofs.Ytfmhliiljmcejaa
