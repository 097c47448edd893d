/-
  FourierInverse: the walk.
-/
import Derived.Test.YtdcacklochaljaaFouN
namespace Go.Proofs.Ytdcacklochaljaa
open Go.RowKit Num
set_option linter.unusedVariables false

set_option maxRecDepth 20000 in
set_option maxHeartbeats 1000000 in
theorem fourierInverse_walk (p : Int) (A : Option Addr) (c : Nat) (l : List Int) (w : World)
    (hp : -9223372036854775808 ≤ p ∧ p ≤ 9223372036854775807)
    (hx : RI .i64 w A l) (hlx : l.length ≤ 9223372036854775807) (_ : ∀ x ∈ l, (Lit.int .i64 x).wf = true) :
    Calls Try.prog 5 #[.int .i64 p, .slice A l.length c] w fun e w' => e = .returned (.bool true) ∧ Below w.heap.size w w' := by
  rcases fitB_cases p l l with ⟨e0, P, rfl, hF, _, _⟩ | e0
  · have h1 := hF.l1
    have h2 := hF.l64
    have h3 := hF.pr.1
    have h4 := hF.le
    have H1 := Lib.hid (show fwdS (P : Int) l = (fwdL P l, 0) by unfold fwdS; rw [if_pos (chkL_ok hF)]; rfl)
    have H2 := Lib.hid (bk_fwd hF)
    have H3 := Lib.hid (show bkS (P : Int) l = (bkL P l, 0) by unfold bkS; rw [if_pos (chkL_ok hF)]; rfl)
    have H4 := Lib.hid (fwd_bk hF)
    have H5 := Lib.hid (fwd_zero hF)
    have HL1 := Lib.hid (fwdL_len P l)
    have HL2 := Lib.hid (show (bkL P l).length = l.length from fullL_len _ _)
    have HEL := Lib.hid hF.el
    clear hF
    generalize fwdL P l = fw at *
    generalize bkL P l = bk at *
    go_enter Try.func5, Try.ntmps5
    go_wp2_with fail
    refine (fit11_any _ _ _ _ _ _ _ _ hx hx hlx hlx hp.1 hp.2).mono ?_
    rintro _ w1 ⟨rfl, hb1⟩
    rw [e0]
    go_wp2_with fail
    refine (fwd_at (P : Int) _ _ l fw 0 H1.out _ (hx.keep hb1) hlx hp.1 hp.2).mono ?_
    rintro _ w2 ⟨A2, c2, rfl, r2, hb2⟩
    have hB2 := bstep hb1 hb2
    clear hb1 hb2
    go_wp2_with fail
    refine (back_at (P : Int) _ _ fw l 0 H2.out _ r2 (by rw [HL1.out]; omega) hp.1 hp.2).mono ?_
    rintro _ w3 ⟨A3, c3, rfl, r3, hb3⟩
    have hB3 := bstep hB2 hb3
    replace r2 := r2.keep hb3
    clear hB2 hb3
    go_wp2_with fail
    refine (back_at (P : Int) _ _ l bk 0 H3.out _ (hx.keep hB3) hlx hp.1 hp.2).mono ?_
    rintro _ w4 ⟨A4, c4, rfl, r4, hb4⟩
    have hB4 := bstep hB3 hb4
    replace r2 := r2.keep hb4
    replace r3 := r3.keep hb4
    clear hB3 hb4
    go_wp2_with fail
    refine (fwd_at (P : Int) _ _ bk l 0 H4.out _ r4 (by rw [HL2.out]; omega) hp.1 hp.2).mono ?_
    rintro _ w5 ⟨A5, c5, rfl, r5, hb5⟩
    have hB5 := bstep hB4 hb5
    replace r2 := r2.keep hb5
    replace r3 := r3.keep hb5
    clear hB4 hb5 r4
    have hl1 := HL1.out
    have hl2 := HL2.out
    obtain ⟨b9, off9, rfl, hlw9, hc9⟩ := r2.at2 (i := 0) (by rw [hl1]; omega)
    rw [H5.out] at hc9
    simp only [hl1, hl2]
    have hx5 := hx.keep hB5
    go_wp2
    go_loopg [13, 14] l.length (fun gk s i wr => ∃ (k : Nat) (s' : Int), k + gk = l.length ∧ s = .int .i64 s' ∧ i = .int .i64 k ∧ 0 ≤ s' ∧ s' < P ∧ Hid (s' = sumM (P : Int) (fun j => l.getD j 0) k) ∧ wr = w5)
    case atStart => exact ⟨0, 0, by omega, rfl, rfl, by omega, by omega, Lib.hid rfl, rfl⟩
    case round =>
      obtain ⟨k, s, hk, rfl, rfl, hs1, hs2, HS, hw⟩ := hrel
      replace hw := hw.symm
      subst hw
      have hk' : k ≤ l.length := by omega
      have HK := Lib.hid hk
      clear hk
      by_cases hlt : k < l.length
      · obtain ⟨b1, off1, rfl, hlw1, hc1⟩ := hx5.at2 hlt
        have bx := HEL.out k hlt
        have HN := Lib.hid (show (s + l.getD k 0) % (P : Int) = sumM (P : Int) (fun j => l.getD j 0) (k + 1) by rw [HS.out]; rfl)
        generalize l.getD k 0 = X at *
        have hpos : 0 < (P : Int) := by omega
        have e1 := Int.emod_nonneg (s + X) (show (P : Int) ≠ 0 by omega)
        have e2 := Int.emod_lt_of_pos (s + X) hpos
        clear hc9
        go_wp2
        go_roundg (gk - 1)
        case rel => exact ⟨k + 1, (s + X) % P, by have := HK.out; omega, rfl, by go_num, e1, e2, HN, rfl⟩
        case measure => have := HK.out; omega
      · have hs : sumM (P : Int) (fun j => l.getD j 0) l.length = s := by rw [HS.out, show k = l.length by omega]
        rw [hs] at hc9
        clear hs
        have hc9' : w5.cell? ⟨b9, off9, none⟩ = some (.int .i64 s) := hc9
        have ss : (s == s) = true := beq_self_eq_true s
        go_wp2_with fail
        refine (same10_any _ _ _ _ _ _ _ r3 hx5 (by omega) (by omega)).mono ?_
        rintro _ w6 ⟨rfl, q6, rfl⟩
        go_wp2_with fail
        refine (same10_any _ _ _ _ _ _ _ (r5.keep (below_drewN (Below.refl _ _) _)) (hx5.keep (below_drewN (Below.refl _ _) _)) (by omega) (by omega)).mono ?_
        rintro _ w7 ⟨rfl, q7, rfl⟩
        go_wp2_with fail
        refine (alive11_any _).mono ?_
        rintro _ w8 ⟨rfl, hb8⟩
        go_wp2
        go_ret
        exact ⟨by simp, by first | exact bstep (below_drewN (below_drewN hB5 _) _) hb8 | exact bstep (below_drewN hB5 _) hb8⟩
  · go_enter Try.func5, Try.ntmps5
    go_wp2_with fail
    refine (fit11_any _ _ _ _ _ _ _ _ hx hx hlx hlx hp.1 hp.2).mono ?_
    rintro _ w1 ⟨rfl, hb1⟩
    rw [e0]
    go_wp2_with fail
    refine (alive11_any _).mono ?_
    rintro _ w2 ⟨rfl, hb2⟩
    go_wp2
    go_ret
    exact ⟨rfl, bstep hb1 hb2⟩
end Go.Proofs.Ytdcacklochaljaa
