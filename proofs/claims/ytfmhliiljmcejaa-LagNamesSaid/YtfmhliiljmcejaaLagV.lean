/-
  The walk of LagMoves.
-/
import Derived.Test.YtfmhliiljmcejaaLagU
import Derived.Test.YtfmhliiljmcejaaAppend
namespace Go.Proofs.Ytfmhliiljmcejaa
open Go.RowKit
set_option linter.unusedVariables false

theorem info_int : (Try.prog.info? 3).map (fun i => (i.zero, i.size, i.bytes)) = some (some (.int .i64 0), 1, 8) := by kernel_rfl

def movedL (n : Nat) (ys : List Int) : List Int := List.replicate n 0 ++ ys
theorem moved_lo {n k : Nat} {ys : List Int} (h : k < n) : (movedL n ys).getD k 0 = 0 := by
  unfold movedL
  rw [getD_lt _ _ (by simp; omega), List.getElem_append_left (by simpa using h)]
  simp
theorem moved_hi {n k : Nat} {ys : List Int} : (movedL n ys).getD (n + k) 0 = ys.getD k 0 := by
  unfold movedL
  rw [List.getD_eq_getElem?_getD, List.getElem?_append_right (by simp), List.getD_eq_getElem?_getD]
  simp
theorem moved_sum {f g : Nat → Nat → Int} {n lx ly : Nat} {d : Int} (h0 : ∀ i k, k < n → f i k = 0) (h1 : ∀ i k, f i (n + k) = g i k) : pairSum f lx (n + ly) (d + n) = pairSum g lx ly d := by
  unfold pairSum
  refine sumR_congr (fun i hi => ?_)
  rw [sumR_split, sumR_zero (fun k hk => by rw [h0 i k hk]; split <;> rfl), Int.zero_add]
  refine sumR_congr (fun k hk => ?_)
  rw [h1]
  by_cases h : (k : Int) - i = d
  · rw [if_pos h, if_pos (by omega)]
  · rw [if_neg h, if_neg (by omega)]
theorem moves_law {xs ys : List Int} {n m t : Nat} (ht : t + n < 2 * m + 1) : (lagCells xs (movedL n ys) m).getD (t + n) (0, 0) = (lagCells xs ys m).getD t (0, 0) := by
  rw [lagCells_at ht, lagCells_at (by omega)]
  have hl : (movedL n ys).length = n + ys.length := by simp [movedL]
  rw [hl]
  have e : (((t + n : Nat) : Int) - m) = ((t : Int) - m) + n := by omega
  rw [e, moved_sum (f := prodF xs (movedL n ys)) (g := prodF xs ys) (fun i k h => by unfold prodF; rw [moved_lo h, Int.mul_zero]) (fun i k => by unfold prodF; rw [moved_hi]),
    moved_sum (f := cntF xs (movedL n ys)) (g := cntF xs ys) (fun i k h => by unfold cntF; rw [moved_lo h]; simp [nz]) (fun i k => by unfold cntF; rw [moved_hi])]
theorem moved_stream {n : Nat} {ys : List Int} (h : streamErr ys = 0) (hl : n + ys.length ≤ 256) : streamErr (movedL n ys) = 0 := by
  refine streamErr_ok (by simp [movedL]; omega) (fun x hx => ?_)
  unfold movedL at hx
  rcases List.mem_append.1 hx with h1 | h1
  · have := (List.mem_replicate.1 h1).2
    subst this
    decide
  · exact (streamErr_zero h).2 x h1

set_option maxRecDepth 100000 in
set_option maxHeartbeats 4000000 in
theorem lagMoves_walk (A : Option Addr) (c : Nat) (xs : List Int) (B : Option Addr) (d : Nat) (ys : List Int) (by_ most : Int) (w : World)
    (hx : RI .i64 w A xs) (hlx : xs.length ≤ 9223372036854775807) (_ : ∀ x ∈ xs, (Lit.int .i64 x).wf = true) (hy : RI .i64 w B ys) (hly : ys.length ≤ 9223372036854775807) (_ : ∀ x ∈ ys, (Lit.int .i64 x).wf = true) (_ : -9223372036854775808 ≤ by_ ∧ by_ ≤ 9223372036854775807) (_ : -9223372036854775808 ≤ most ∧ most ≤ 9223372036854775807) :
    Calls Try.prog 6 #[.slice A xs.length c, .slice B ys.length d, .int .i64 by_, .int .i64 most] w fun e w' => e = .returned (.bool true) ∧ Below w.heap.size w w' := by
  rcases (Decidable.em (streamErr xs = 0)).symm with he | he
  · have e1 : (streamErr xs == 0) = false := by simp [he]
    clear he
    go_enter Try.func6, Try.ntmps6
    go_wp2_with fail
    refine (alive16 _).mono ?_
    rintro e w1 ⟨rfl, hb1⟩
    go_wp2_with (go_at_call 29; refine (fit16_any _ _ _ _ (hx.keep hb1) hlx).mono ?_; rintro e w' ⟨rfl, rfl⟩)
    go_ret
    exact ⟨rfl, hb1⟩
  have e1 : (streamErr xs == 0) = true := by simp [he]
  have HE := Lib.hid he
  have hl5 := (streamErr_zero he).1
  clear he
  rcases (Decidable.em (streamErr ys = 0)).symm with he | he
  · have e2 : (streamErr ys == 0) = false := by simp [he]
    clear he
    go_enter Try.func6, Try.ntmps6
    go_wp2_with fail
    refine (alive16 _).mono ?_
    rintro e w1 ⟨rfl, hb1⟩
    go_wp2_with fail
    refine (fit16_any _ _ _ _ (hx.keep hb1) hlx).mono ?_
    rintro e w' ⟨rfl, rfl⟩
    go_wp2_with fail
    refine (fit16_any _ _ _ _ (hy.keep hb1) hly).mono ?_
    rintro e w' ⟨rfl, rfl⟩
    go_wp2
    go_ret
    exact ⟨rfl, hb1⟩
  have e2 : (streamErr ys == 0) = true := by simp [he]
  have HE2 := Lib.hid he
  have hl6 := (streamErr_zero he).1
  clear he
  rcases (Decidable.em (ys.length ≤ 100 ∧ 0 ≤ by_ ∧ by_ ≤ 50 ∧ 0 ≤ most ∧ most ≤ 100)).symm with hm | hm
  · have hm' : 100 < ys.length ∨ (ys.length ≤ 100 ∧ by_ < 0) ∨ (ys.length ≤ 100 ∧ 0 ≤ by_ ∧ 50 < by_) ∨ (ys.length ≤ 100 ∧ 0 ≤ by_ ∧ by_ ≤ 50 ∧ most < 0) ∨ (ys.length ≤ 100 ∧ 0 ≤ by_ ∧ by_ ≤ 50 ∧ 0 ≤ most ∧ 100 < most) := by omega
    clear hm
    rcases hm' with hm | hm | hm | hm | hm
    all_goals
      go_enter Try.func6, Try.ntmps6
      go_wp2_with fail
      refine (alive16 _).mono ?_
      rintro e w1 ⟨rfl, hb1⟩
      go_wp2_with fail
      refine (fit16_any _ _ _ _ (hx.keep hb1) hlx).mono ?_
      rintro e w' ⟨rfl, rfl⟩
      go_wp2_with fail
      refine (fit16_any _ _ _ _ (hy.keep hb1) hly).mono ?_
      rintro e w' ⟨rfl, rfl⟩
      go_wp2
      go_ret
      exact ⟨rfl, hb1⟩
  obtain ⟨m, rfl⟩ : ∃ m : Nat, most = (m : Int) := ⟨most.toNat, by omega⟩
  obtain ⟨n, rfl⟩ : ∃ n : Nat, by_ = (n : Int) := ⟨by_.toNat, by omega⟩
  have hm100 : m ≤ 100 := by omega
  have hn50 : n ≤ 50 := by omega
  have hy100 : ys.length ≤ 100 := by omega
  have dm0 : decide (100 < (ys.length : Int)) = false := by simp; omega
  have dm1 : decide ((m : Int) < 0) = false := by simp
  have dm2 : decide (100 < (m : Int)) = false := by simp; omega
  have dm3 : decide ((n : Int) < 0) = false := by simp
  have dm4 : decide (50 < (n : Int)) = false := by simp; omega
  clear hm
  have HE3 := Lib.hid (moved_stream (n := n) HE2.out (by omega))
  have hml : (movedL n ys).length = n + ys.length := by simp [movedL]
  have HML := Lib.hid hml
  clear hml
  obtain ⟨i0, hi0, hz0, hz1, hz2⟩ := info_parts info_int
  have hmk := mk_row (P := Try.prog) 22 3 Try.underlying22 hi0 hz0 hz1 hz2 (encI .i64) (encI_len .i64) (by omega) 0 rfl n (by omega) (by omega)
  go_enter Try.func6, Try.ntmps6
  go_wp2_with fail
  refine (alive16 _).mono ?_
  rintro e w1 ⟨rfl, hb1⟩
  go_wp2_with fail
  refine (fit16_any _ _ _ _ (hx.keep hb1) hlx).mono ?_
  rintro e w' ⟨rfl, rfl⟩
  go_wp2_with fail
  refine (fit16_any _ _ _ _ (hy.keep hb1) hly).mono ?_
  rintro e w' ⟨rfl, rfl⟩
  have hown : (w1.alloc (.cells ((List.replicate n (0 : Int)).flatMap (encI .i64)).toArray 3)).ownsRow w.heap.size 3 1 (.slice (some ⟨w1.heap.size, 0, none⟩) n n) n ((List.replicate n (0 : Int)).flatMap (encI .i64)) := by
    have := own_blk (size := 1) (n := n) (Blk.new w1 3 ((List.replicate n (0 : Int)).flatMap (encI .i64)).toArray) hb1.size (by simp [flat_len _ 1 (encI_len .i64)]) (by unfold maxLen; omega)
    simpa using this
  have hba := balloc hb1 (.cells ((List.replicate n (0 : Int)).flatMap (encI .i64)).toArray 3)
  go_wp2_with (at_builtin; refine wpList_append_RI _ rfl _ _ 22 rfl w.heap.size 3 i0 _ 8 Try.underlying22 hi0 hz0 hz1 hz2 rfl .i64 _ n (List.replicate n 0) rfl hown B d ys rfl (hy.keep hba) ?c1 ?c2 ?c3 ?_)
  case c1 => unfold maxLen; omega
  case c2 => omega
  case c3 => exact hba.size
  intro v2 w2 hown2 hgrow2
  have hB2 := own_below hba hown hgrow2 (Nat.le_refl _) hba.size
  obtain ⟨A2, c2, rfl⟩ := own_shape hown2
  have hM : RI .i64 w2 A2 (movedL n ys) := by
    have h : w2.ownsRow w.heap.size 3 1 (.slice A2 (movedL n ys).length c2) (movedL n ys).length ((movedL n ys).flatMap (encI .i64)) := by rw [HML.out, movedL, List.flatMap_append]; exact hown2
    exact own_RI h
  clear hown2 hgrow2 hown hba
  go_wp2_with fail
  refine (lagOf_val HE.out HE2.out (by omega) (hx.keep hB2) (hy.keep hB2)).mono ?_
  rintro e w3 ⟨A3, c3, rfl, hL3, hb3⟩
  have hB3 := bstep hB2 hb3
  replace hM := hM.keep hb3
  clear hb3 hB2
  go_wp2_with fail
  have hcall := lagOf_val (c := c) (d := c2) (m := m) HE.out HE3.out (by omega) (hx.keep hB3) hM
  rw [HML.out] at hcall
  refine hcall.mono ?_
  clear hcall
  rintro e w4 ⟨A4, c4, rfl, hL4, hb4⟩
  have hB4 := bstep hB3 hb4
  replace hL3 := hL3.keep hb4
  clear hb4 hB3 hM
  have g1 := eqg_lag
  have g2 := eq_lag
  have ecast : ((2 * m + 1 : Nat) : Int) = 2 * (m : Int) + 1 := by omega
  go_wp2
  clear ecast
  have hL3l : (lagCells xs ys m).length = 2 * m + 1 := lagCells_len _ _ _
  have hL4l : (lagCells xs (movedL n ys) m).length = 2 * m + 1 := lagCells_len _ _ _
  have H3 := Lib.hid hL3l
  have H4 := Lib.hid hL4l
  clear hL3l hL4l
  go_loopg [15] (2 * m + 1) (fun gk s1 wr => ∃ k q : Nat, k + gk = 2 * m + 1 ∧ s1 = .int .i64 k ∧ wr = w4.drewN q)
  case atStart => exact ⟨0, 0, by omega, rfl, rfl⟩
  case round =>
    obtain ⟨k, q, hk, rfl, rfl⟩ := hrel
    have hk' : k ≤ 2 * m + 1 := by omega
    have HK := Lib.hid hk
    clear hk
    by_cases hlt : k + n < 2 * m + 1
    · have i3 : k < (lagCells xs ys m).length := by rw [H3.out]; omega
      have i4 : k + n < (lagCells xs (movedL n ys) m).length := by rw [H4.out]; omega
      have hm := moves_law (xs := xs) (ys := ys) hlt
      obtain ⟨b3, off3, rfl, _, hc1, hc2⟩ := hL3.at_ i3
      obtain ⟨b4, off4, rfl, _, hd1, hd2⟩ := hL4.at_ i4
      rw [hm] at hd1 hd2
      have HM := Lib.hid hm
      clear hm
      generalize (lagCells xs ys m).getD k (0, 0) = pr at hc1 hc2 hd1 hd2
      clear i3 i4
      go_wp2
      go_quiet (fail)
      go_wp2
      go_roundg (gk - 1)
      case rel => exact ⟨k + 1, q + nq, by have := HK.out; omega, by go_num, by first | rfl | rw [World.drewN_drewN]⟩
      case measure => have := HK.out; omega
    · go_wp2
      go_ret
      exact ⟨rfl, below_drewN hB4 q⟩
end Go.Proofs.Ytfmhliiljmcejaa
