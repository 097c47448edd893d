/-
  FourierTurns: the walk.
-/
import Derived.Test.YtdcacklochaljaaFouK
import Derived.Test.YtdcacklochaljaaFouH
namespace Go.Proofs.Ytdcacklochaljaa
open Go.RowKit Num
set_option linter.unusedVariables false

theorem tuS_len (p : Int) (l : List Int) (d : Int) : (tuS p l d).1.length ≤ l.length := by
  unfold tuS; split
  · show (fullL _ _).length ≤ _; rw [fullL_len]; exact Nat.le_refl _
  · exact Nat.zero_le _
theorem phS_len (p : Int) (l : List Int) (d : Int) : (phS p l d).1.length ≤ l.length := by
  unfold phS; split
  · show (fullL _ _).length ≤ _; rw [fullL_len]; exact Nat.le_refl _
  · exact Nat.zero_le _
theorem sgS_len (p : Int) (l : List Int) : (sgS p l).1.length ≤ l.length := by
  unfold sgS; split
  · show (fullL _ _).length ≤ _; rw [fullL_len]; exact Nat.le_refl _
  · exact Nat.zero_le _
theorem rdS_len (p : Int) (l : List Int) : (rdS p l).1.length ≤ l.length := by
  unfold rdS; split
  · split
    · exact Nat.zero_le _
    · split
      · exact Nat.zero_le _
      · show (fullL _ _).length ≤ _; rw [fullL_len]; exact Nat.le_refl _
  · exact Nat.zero_le _

set_option maxRecDepth 20000 in
set_option maxHeartbeats 1000000 in
theorem fourierTurns_go (p : Int) (A : Option Addr) (c : Nat) (l : List Int) (d : Int) (w : World)
    (hp : -9223372036854775808 ≤ p ∧ p ≤ 9223372036854775807)
    (hx : RI .i64 w A l) (hlx : l.length ≤ 1100) (hd : -9223372036854775808 ≤ d ∧ d ≤ 9223372036854775807)
    (hgo : l.length ≤ 70 ∨ 1000 < l.length) :
    Calls Try.prog 3 #[.int .i64 p, .slice A l.length c, .int .i64 d] w fun e w' => e = .returned (.bool true) ∧ Below w.heap.size w w' := by
  obtain ⟨i0, hi0, hz0, hz1, hz2⟩ := info_int64
  have k1 := tuS_len p l d
  have k2 := phS_len p l d
  have k3 := sgS_len p l
  have k4 := rdS_len p l
  have d2 : decide (1100 < l.length) = false := decide_eq_false (by omega)
  rcases hgo with hgo | hgo
  all_goals
    first
      | (have d1 : decide (70 < l.length) = false := decide_eq_false (by omega))
      | (have d1 : decide (70 < l.length) = true := decide_eq_true (by omega)
         have d3 : decide (l.length ≤ 1000) = false := decide_eq_false (by omega))
    go_enter Try.func3, Try.ntmps3
    go_wp2_with fail
    refine (great11_any _ _ _ _ (by omega)).mono ?_
    rintro _ _ ⟨rfl, rfl⟩
    go_wp2_with fail
    refine (turn_any p A c l d w hx (by omega) hp.1 hp.2 hd).mono ?_
    rintro _ w1 ⟨A1, c1, rfl, r1, hB1, hbk⟩
    have HBK : Hid ((tuS p l d).1 = [] ∨ ∃ g, A1 = some ⟨g, 0, none⟩ ∧ w.heap.size ≤ g ∧ Blk w1 g 2 ((tuS p l d).1.flatMap (encI .i64)).toArray) := Lib.hid hbk
    clear hbk
    go_wp2_with fail
    refine (refTurn_any p A c l d w1 (hx.keep hB1) (by omega) hp.1 hp.2 hd).mono ?_
    rintro _ w2 ⟨A2, c2, rfl, r2, hb2⟩
    have hq2 : Below w1.heap.size w1 w2 := hb2
    have hB2 := bstep hB1 hb2
    replace r1 := r1.keep hb2
    clear hB1 hb2
    go_wp2_with fail
    refine (phase_any p A c l d w2 (hx.keep hB2) (by omega) hp.1 hp.2 hd).mono ?_
    rintro _ w3 ⟨A3, c3, rfl, r3, hb3⟩
    have hq3 := bstep hq2 hb3
    have hB3 := bstep hB2 hb3
    replace r1 := r1.keep hb3
    replace r2 := r2.keep hb3
    clear hB2 hb3 hq2
    go_wp2_with fail
    refine (refPhase_any p A c l d w3 (hx.keep hB3) (by omega) hp.1 hp.2 hd).mono ?_
    rintro _ w4 ⟨A4, c4, rfl, r4, hb4⟩
    have hq4 := bstep hq3 hb4
    have hB4 := bstep hB3 hb4
    replace r1 := r1.keep hb4
    replace r2 := r2.keep hb4
    replace r3 := r3.keep hb4
    clear hB3 hb4 hq3
    go_wp2_with fail
    refine (signed_any p A c l w4 (hx.keep hB4) (by omega) hp.1 hp.2).mono ?_
    rintro _ w5 ⟨A5, c5, rfl, r5, hb5⟩
    have hq5 := bstep hq4 hb5
    have hB5 := bstep hB4 hb5
    replace r1 := r1.keep hb5
    replace r2 := r2.keep hb5
    replace r3 := r3.keep hb5
    replace r4 := r4.keep hb5
    clear hB4 hb5 hq4
    go_wp2_with fail
    refine (refSigned_any p A c l w5 (hx.keep hB5) (by omega) hp.1 hp.2).mono ?_
    rintro _ w6 ⟨A6, c6, rfl, r6, hb6⟩
    have hq6 := bstep hq5 hb6
    have hB6 := bstep hB5 hb6
    replace r1 := r1.keep hb6
    replace r2 := r2.keep hb6
    replace r3 := r3.keep hb6
    replace r4 := r4.keep hb6
    replace r5 := r5.keep hb6
    clear hB5 hb6 hq5
    go_wp2_with fail
    refine (reduce_any p A c l w6 (hx.keep hB6) (by omega) hp.1 hp.2).mono ?_
    rintro _ w7 ⟨A7, c7, rfl, r7, hb7⟩
    have hq7 := bstep hq6 hb7
    have hB7 := bstep hB6 hb7
    replace r1 := r1.keep hb7
    replace r2 := r2.keep hb7
    replace r3 := r3.keep hb7
    replace r4 := r4.keep hb7
    replace r5 := r5.keep hb7
    replace r6 := r6.keep hb7
    clear hB6 hb7 hq6
    go_wp2_with fail
    refine (refReduce_any p A c l w7 (hx.keep hB7) (by omega) hp.1 hp.2).mono ?_
    rintro _ w8 ⟨A8, c8, rfl, r8, hb8⟩
    have hq8 := bstep hq7 hb8
    have hB8 := bstep hB7 hb8
    replace r1 := r1.keep hb8
    replace r2 := r2.keep hb8
    replace r3 := r3.keep hb8
    replace r4 := r4.keep hb8
    replace r5 := r5.keep hb8
    replace r6 := r6.keep hb8
    replace r7 := r7.keep hb8
    clear hB7 hb8 hq7
    generalize tuS p l d = T at *
    generalize phS p l d = Ph at *
    generalize sgS p l = Sg at *
    generalize rdS p l = Rd at *
    go_wp2_with fail
    refine (same10_any _ _ _ _ _ _ _ r1 r2 (by omega) (by omega)).mono ?_
    rintro _ w9 ⟨rfl, q9, rfl⟩
    go_wp2_with fail
    refine (same10_any _ _ _ _ _ _ _ (r3.keep (below_drewN (Below.refl _ _) _)) (r4.keep (below_drewN (Below.refl _ _) _)) (by omega) (by omega)).mono ?_
    rintro _ w10 ⟨rfl, q10, rfl⟩
    go_wp2_with fail
    refine (same10_any _ _ _ _ _ _ _ (r5.keep (below_drewN (Below.refl _ _) _)) (r6.keep (below_drewN (Below.refl _ _) _)) (by omega) (by omega)).mono ?_
    rintro _ w11 ⟨rfl, q11, rfl⟩
    go_wp2_with fail
    refine (same10_any _ _ _ _ _ _ _ (r7.keep (below_drewN (Below.refl _ _) _)) (r8.keep (below_drewN (Below.refl _ _) _)) (by omega) (by omega)).mono ?_
    rintro _ w12 ⟨rfl, q12, rfl⟩
    have hqx := below_drewN hq8 (q9 + q10 + q11 + q12)
    have hBx := below_drewN hB8 (q9 + q10 + q11 + q12)
    simp only [World.drewN_drewN]
    generalize w8.drewN (q9 + q10 + q11 + q12) = wx at *
    clear r1 r2 r3 r4 r5 r6 r7 r8 hq8 hB8
    go_wp2_with (at_builtin; refine wpList_append_RI _ rfl _ _ 22 rfl wx.heap.size 2 i0 _ 8 Try.underlying22 hi0 hz0 hz1 hz2 rfl .i64 _ 0 [] rfl (own_empty 2 (Nat.le_refl _)) A c l rfl ((hx.keep hBx).keep (balloc (Below.refl _ _) _)) (by unfold maxLen; omega) (by omega) (by simp) ?_; intro v1 wy hown1 hgrow1)
    simp only [Nat.zero_add, List.nil_append] at hown1
    obtain ⟨A9, c9, rfl, hc9⟩ := own_shape' hown1
    have hBy : Below wx.heap.size wx wy := own_below (balloc (Below.refl _ _) _) (own_empty 2 (Nat.le_refl _)) hgrow1 (Nat.le_refl _) (by simp)
    have hBw := bstep hBx hBy
    rcases HBK.out with hT0 | ⟨g, hg1, hg2, hg3⟩
    · have hl0 : T.1.length = 0 := by rw [hT0]; rfl
      have r9 := own_RI hown1
      simp only [hl0]
      clear HBK
      go_wp2
      go_loopg [24] 0 (fun gk i wr => i = .int .i64 0 ∧ wr = wy)
      case atStart => exact ⟨rfl, rfl⟩
      case round =>
        obtain ⟨rfl, hw⟩ := hrel
        replace hw := hw.symm
        subst hw
        go_wp2_with fail
        refine (same10_any _ _ _ _ _ _ _ (hx.keep hBw) r9 (by omega) (by omega)).mono ?_
        rintro _ w9 ⟨rfl, q9', rfl⟩
        go_wp2
        go_ret
        exact ⟨ret_bool (by simp), below_drewN hBw _⟩
    · subst hg1
      have hgx := (hg3.keep hqx).lt
      have hgy := (hg3.keep hqx).keep hBy
      clear HBK hg3
      go_wp2
      go_loopg [24] T.1.length (fun gk i wr => ∃ (k : Nat) (cs : List Int), k + gk = T.1.length ∧ i = .int .i64 k ∧ cs.length = T.1.length ∧ Blk wr g 2 (cs.flatMap (encI .i64)).toArray ∧ Below w.heap.size w wr ∧ wr.ownsRow wx.heap.size 2 1 (.slice A9 l.length c9) l.length (l.flatMap (encI .i64)))
      case atStart => exact ⟨0, T.1, by omega, rfl, rfl, hgy, hBw, hown1⟩
      case round =>
        obtain ⟨k, cs, hk, rfl, hcs, hO, hb, how⟩ := hrel
        have hk' : k ≤ T.1.length := by omega
        have HK := Lib.hid hk
        have HCS := Lib.hid hcs
        clear hk
        by_cases hlt : k < T.1.length
        · have o0 := blkI_at hO (j := k) (by omega)
          have of0 := hO.frozen k
          have hgl := hO.lt
          have HO2 := Lib.hid (blkI_set hO (j := k) (by omega) (-1))
          have HW2 := Lib.hid (ownsRow_setCell_below how (a := ⟨g, k, none⟩) hgx (.int .i64 (-1)))
          generalize cs.getD k 0 = X at o0
          clear hcs
          go_wp2
          go_roundg (gk - 1)
          case rel => exact ⟨k + 1, cs.set k (-1), by have := HK.out; omega, by go_num, by rw [List.length_set]; exact HCS.out, HO2.out, hb.setCell (p := ⟨g, k, none⟩) hg2 _, HW2.out⟩
          case measure => have := HK.out; omega
        · have r9 := own_RI how
          go_wp2_with fail
          refine (same10_any _ _ _ _ _ _ _ (hx.keep hb) r9 (by omega) (by omega)).mono ?_
          rintro _ w9 ⟨rfl, q9', rfl⟩
          go_wp2
          go_ret
          exact ⟨ret_bool (by simp), below_drewN hb _⟩
theorem fourierTurns_walk (p : Int) (A : Option Addr) (c : Nat) (l : List Int) (d : Int) (w : World)
    (hp : -9223372036854775808 ≤ p ∧ p ≤ 9223372036854775807)
    (hx : RI .i64 w A l) (hlx : l.length ≤ 9223372036854775807) (_ : ∀ x ∈ l, (Lit.int .i64 x).wf = true) (hd : -9223372036854775808 ≤ d ∧ d ≤ 9223372036854775807) :
    Calls Try.prog 3 #[.int .i64 p, .slice A l.length c, .int .i64 d] w fun e w' => e = .returned (.bool true) ∧ Below w.heap.size w w' := by
  by_cases hgo : l.length ≤ 1100 ∧ (l.length ≤ 70 ∨ 1000 < l.length)
  · exact fourierTurns_go p A c l d w hp hx hgo.1 hd hgo.2
  · have d1 : decide (70 < l.length) = true := decide_eq_true (by omega)
    by_cases h : l.length ≤ 1000
    · have d2 : decide (l.length ≤ 1000) = true := decide_eq_true h
      go_enter Try.func3, Try.ntmps3
      go_wp2_with fail
      refine (great11_any _ _ _ _ hlx).mono ?_
      rintro _ _ ⟨rfl, rfl⟩
      go_wp2
      go_ret
      exact ⟨rfl, Below.refl _ _⟩
    · have d2 : decide (l.length ≤ 1000) = false := decide_eq_false h
      have d3 : decide (1100 < l.length) = true := decide_eq_true (by omega)
      go_enter Try.func3, Try.ntmps3
      go_wp2_with fail
      refine (great11_any _ _ _ _ hlx).mono ?_
      rintro _ _ ⟨rfl, rfl⟩
      go_wp2
      go_ret
      exact ⟨rfl, Below.refl _ _⟩
end Go.Proofs.Ytdcacklochaljaa
