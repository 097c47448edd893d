/-
  Layer 12 (bank), contracts of the reference: Two, Shift, Keep.
-/
import Derived.Test.YtnhjeelcgfobnaaBkH
import Derived.Test.YtnhjeelcgfobnaaFouY
namespace Go.Proofs.Ytnhjeelcgfobnaa
open Go.RowKit Num
set_option maxRecDepth 8000
set_option linter.unusedVariables false
set_option linter.unusedSimpArgs false
namespace Bk
open Lol

theorem one_slice {A : Option Addr} {n c : Nat} : ∀ u ∈ [Value.slice A n c], u.oneCell' = true := by simp [Value.oneCell']
set_option maxHeartbeats 2000000 in
theorem refTwo_any (p : Int) (A : Option Addr) (c : Nat) (a : List (List Int)) (B : Option Addr) (d : Nat) (b : List (List Int)) (w : World) (hp1 : -9223372036854775808 ≤ p) (hp2 : p ≤ 9223372036854775807) (hx : RLL .i64 w A a) (hy : RLL .i64 w B b) :
    Calls Try.prog 35 #[.int .i64 p, .slice A a.length c, .slice B b.length d] w fun e w' => e = .returned (.int .i64 (twoE p a b)) ∧ Below w.heap.size w w' := by
  have HB := Lib.hid (fun w hx => refBoth_any p A c a w hp1 hp2 hx)
  by_cases h0 : bothE12 p a = 0
  · obtain ⟨P, rfl, h7, hP2, hP, hBa⟩ := both_zero h0
    have hN256 := hBa.len
    have c0 : (bothE12 (P : Int) a != 0) = false := by rw [h0]; rfl
    have HCK := Lib.hid (fun w hy => refCheckB_any P B d b w h7 hP2 hy)
    by_cases h1 : bankE (P : Int) b = 0
    · have c1 : (bankE (P : Int) b != 0) = false := by rw [h1]; rfl
      have HT : Hid (twoE P a b = if a.length ≠ b.length ∨ wid a ≠ wid b then 2 else 0) := Lib.hid (by unfold twoE; rw [if_neg (by simp [h0]), if_neg (by simp [h1])])
      clear h0 h1 hP hBa
      by_cases hl : a.length = b.length
      · have d1 : ((a.length : Int) != (b.length : Int)) = false := by simp [hl]
        by_cases hn : a.length = 0
        · have d2 : decide (0 < (a.length : Int)) = false := decide_eq_false (by omega)
          have d2' : decide (0 < a.length) = false := decide_eq_false (by omega)
          have HE : Hid (twoE P a b = 0) := Lib.hid (by
            rw [HT.out, if_neg]
            rintro (h | h)
            · exact h hl
            · apply h
              rw [List.eq_nil_of_length_eq_zero hn, List.eq_nil_of_length_eq_zero (hl.symm.trans hn)])
          clear hl hn
          go_enter Try.func35, Try.ntmps35
          go_wp2_with fail
          refine (HB.out _ hx).mono ?_
          rintro _ w1 ⟨rfl, hb1⟩
          have hx1 := hx.keep hb1
          have hy1 := hy.keep hb1
          go_wp2_with fail
          refine (HCK.out _ hy1).mono ?_
          rintro _ w2 ⟨rfl, q2, rfl⟩
          have hx2 : RLL .i64 (World.drewN w1 q2) A a := hx1
          have hy2 : RLL .i64 (World.drewN w1 q2) B b := hy1
          go_wp2
          go_quiet (fail)
          go_wp2
          go_ret
          exact ⟨ret_int HE.out.symm, by first | exact below_drewN hb1 _ | exact below_drewN (below_drewN hb1 _) _⟩
        · have d2 : decide (0 < (a.length : Int)) = true := decide_eq_true (by omega)
          have d2' : decide (0 < a.length) = true := decide_eq_true (by omega)
          have hla : 0 < a.length := by omega
          have hlb : 0 < b.length := by omega
          have HL := Lib.hid hl
          have ea := wid_at hla
          have eb := wid_at hlb
          clear hn hl
          by_cases hw : wid a = wid b
          · have d3 : ((wid a : Int) != (wid b : Int)) = false := by simp [hw]
            have HE : Hid (twoE P a b = 0) := Lib.hid (by rw [HT.out, if_neg (by simp [HL.out, hw])])
            clear hw
            go_enter Try.func35, Try.ntmps35
            go_wp2_with fail
            refine (HB.out _ hx).mono ?_
            rintro _ w1 ⟨rfl, hb1⟩
            have hx1 := hx.keep hb1
            have hy1 := hy.keep hb1
            go_wp2_with fail
            refine (HCK.out _ hy1).mono ?_
            rintro _ w2 ⟨rfl, q2, rfl⟩
            have hx2 : RLL .i64 (World.drewN w1 q2) A a := hx1
            have hy2 : RLL .i64 (World.drewN w1 q2) B b := hy1
            obtain ⟨b1, off1, A', c', rfl, hlw1, hc1, _, _⟩ := hx1.at_ hla
            obtain ⟨b2, off2, B', d', rfl, hlw2, hc2, _, _⟩ := hy1.at_ hlb
            rw [Nat.add_zero, ← ea] at hc1
            rw [Nat.add_zero, ← eb] at hc2
            clear ea eb
            generalize wid a = na at *
            generalize wid b = nb at *
            go_wp2
            go_quiet (fail)
            go_wp2
            go_ret
            exact ⟨ret_int HE.out.symm, by first | exact below_drewN hb1 _ | exact below_drewN (below_drewN hb1 _) _⟩
          · have d3 : ((wid a : Int) != (wid b : Int)) = true := by rw [bne_iff_ne]; omega
            have HE : Hid (twoE P a b = 2) := Lib.hid (by rw [HT.out, if_pos (.inr hw)])
            clear hw
            go_enter Try.func35, Try.ntmps35
            go_wp2_with fail
            refine (HB.out _ hx).mono ?_
            rintro _ w1 ⟨rfl, hb1⟩
            have hx1 := hx.keep hb1
            have hy1 := hy.keep hb1
            go_wp2_with fail
            refine (HCK.out _ hy1).mono ?_
            rintro _ w2 ⟨rfl, q2, rfl⟩
            have hx2 : RLL .i64 (World.drewN w1 q2) A a := hx1
            have hy2 : RLL .i64 (World.drewN w1 q2) B b := hy1
            obtain ⟨b1, off1, A', c', rfl, hlw1, hc1, _, _⟩ := hx1.at_ hla
            obtain ⟨b2, off2, B', d', rfl, hlw2, hc2, _, _⟩ := hy1.at_ hlb
            rw [Nat.add_zero, ← ea] at hc1
            rw [Nat.add_zero, ← eb] at hc2
            clear ea eb
            generalize wid a = na at *
            generalize wid b = nb at *
            go_wp2
            go_quiet (fail)
            go_wp2
            go_ret
            exact ⟨ret_int HE.out.symm, by first | exact below_drewN hb1 _ | exact below_drewN (below_drewN hb1 _) _⟩
      · have d1 : ((a.length : Int) != (b.length : Int)) = true := by rw [bne_iff_ne]; omega
        have HE : Hid (twoE P a b = 2) := Lib.hid (by rw [HT.out, if_pos (.inl hl)])
        clear hl
        go_enter Try.func35, Try.ntmps35
        go_wp2_with fail
        refine (HB.out _ hx).mono ?_
        rintro _ w1 ⟨rfl, hb1⟩
        have hx1 := hx.keep hb1
        have hy1 := hy.keep hb1
        go_wp2_with fail
        refine (HCK.out _ hy1).mono ?_
        rintro _ w2 ⟨rfl, q2, rfl⟩
        have hx2 : RLL .i64 (World.drewN w1 q2) A a := hx1
        have hy2 : RLL .i64 (World.drewN w1 q2) B b := hy1
        go_wp2
        go_quiet (fail)
        go_wp2
        go_ret
        exact ⟨ret_int HE.out.symm, by first | exact below_drewN hb1 _ | exact below_drewN (below_drewN hb1 _) _⟩
    · have c1 : (bankE (P : Int) b != 0) = true := by rw [bne_iff_ne]; exact h1
      have HE : Hid (twoE P a b = bankE P b) := Lib.hid (by unfold twoE; rw [if_neg (by simp [h0]), if_pos h1])
      clear h0 h1 hP hBa
      go_enter Try.func35, Try.ntmps35
      go_wp2_with fail
      refine (HB.out _ hx).mono ?_
      rintro _ w1 ⟨rfl, hb1⟩
      have hx1 := hx.keep hb1
      have hy1 := hy.keep hb1
      go_wp2_with fail
      refine (HCK.out _ hy1).mono ?_
      rintro _ w2 ⟨rfl, q2, rfl⟩
      have hx2 : RLL .i64 (World.drewN w1 q2) A a := hx1
      have hy2 : RLL .i64 (World.drewN w1 q2) B b := hy1
      go_wp2_with fail
      refine (HCK.out _ hy2).mono ?_
      rintro _ w3 ⟨rfl, q3, rfl⟩
      go_wp2
      go_ret
      exact ⟨ret_int HE.out.symm, by first | exact below_drewN hb1 _ | exact below_drewN (below_drewN hb1 _) _⟩
  · have c0 : (bothE12 p a != 0) = true := by rw [bne_iff_ne]; exact h0
    have HE : Hid (twoE p a b = bothE12 p a) := Lib.hid (by unfold twoE; rw [if_pos h0])
    clear h0
    go_enter Try.func35, Try.ntmps35
    go_wp2_with fail
    refine (HB.out _ hx).mono ?_
    rintro _ w1 ⟨rfl, hb1⟩
    have hx1 := hx.keep hb1
    have hy1 := hy.keep hb1
    go_wp2_with fail
    refine (HB.out _ hx1).mono ?_
    rintro _ w2 ⟨rfl, hb2⟩
    go_wp2
    go_ret
    exact ⟨ret_int HE.out.symm, bstep hb1 hb2⟩
set_option maxHeartbeats 2000000 in
theorem refShift_any (p : Int) (A : Option Addr) (c : Nat) (b : List (List Int)) (d : Int) (w : World) (hp1 : -9223372036854775808 ≤ p) (hp2 : p ≤ 9223372036854775807) (hd : -9223372036854775808 ≤ d ∧ d ≤ 9223372036854775807) (hx : RLL .i64 w A b) :
    Calls Try.prog 14 #[.int .i64 p, .slice A b.length c, .int .i64 d] w (RetLL .i64 w (shiftS p b d)) := by
  have HB := Lib.hid (fun w hx => refBoth_any p A c b w hp1 hp2 hx)
  by_cases h0 : bothE12 p b = 0
  · obtain ⟨P, rfl, h7, hP2, hP, hBk⟩ := both_zero h0
    have hN256 := hBk.len
    have c0 : (bothE12 (P : Int) b != 0) = false := by rw [h0]; rfl
    have HS : Hid (shiftS P b d = (fullL (shiftR P b d) b.length, 0)) := Lib.hid (by unfold shiftS; rw [if_neg (by simp [h0])])
    have HF := Lib.hid (fun t (ht : t < b.length) => hBk.fit hP hP2 ht)
    have HPH : Hid (∀ t (ht : t < b.length) A' c' w, RI .i64 w A' b[t] → Calls Try.prog 39 #[.int .i64 (P : Int), .slice A' b[t].length c', .int .i64 d] w (RetN w (shiftR P b d t, 0))) := Lib.hid (fun t ht A' c' w hx => by
      have hF := HF.out t ht
      have := refPhaseN_any (P : Int) A' c' b[t] d w hx (by have := hF.l64; omega) hp1 hp2 hd
      rw [phase_row ht hF] at this
      exact this)
    obtain ⟨j0, hj0, hy0, hy1, hy2⟩ := info_parts info_ints64
    clear h0 hBk hP
    go_enter Try.func14, Try.ntmps14
    go_wp2_with fail
    refine (HB.out _ hx).mono ?_
    rintro _ w1 ⟨rfl, hb1⟩
    have hx1 := hx.keep hb1
    go_wp2
    go_loopg [8, 9] b.length (fun gk v i wr => ∃ (k : Nat) (raws : List Value), k + gk = b.length ∧ i = .int .i64 k ∧ wr.ownsRow w1.heap.size 31 1 v k raws ∧ Els .i64 w1.heap.size wr v.ownBlock raws (fullL (shiftR P b d) k) ∧ Below w1.heap.size w1 wr)
    case atStart => exact ⟨0, [], by omega, rfl, World.ownsRow_nil _ _ _ _, Els.nil, Below.refl _ _⟩
    case round =>
      obtain ⟨k, raws, hk, rfl, hO, hE, hb⟩ := hrel
      have hk' : k ≤ b.length := by omega
      have HK := Lib.hid hk
      clear hk
      have hsz := hb.size
      obtain ⟨As, cs, rfl, hcs⟩ := own_shape' hO
      by_cases hlt : k < b.length
      · obtain ⟨b1, off1, A', c', rfl, hlw1, hc1, hr, hcap1⟩ := hx1.at_ (i := k) hlt
        have hc2 := (hb.cell (p := ⟨b1, off1 + k, none⟩) hlw1).trans hc1
        have HFS := Lib.hid (fullL_succ (shiftR P b d) k)
        have HCP := Lib.hid (HPH.out k hlt A' c' wr (hr.keep hb))
        generalize hrow : shiftR P b d k = row at *
        clear hrow
        generalize hl : b[k] = l at *
        clear hl
        go_wp2_with fail
        refine (HCP.out).mono ?_
        rintro _ w2 ⟨A2, c2, rfl, r2, hcp2, hb2⟩
        simp only at r2 hcp2
        have hs2 := hb2.size
        go_wp2_with (at_builtin; refine wpList_append_lies _ rfl (.tmp 35) (.tmp 37) 22 rfl w1.heap.size 31 j0 _ 1 24 Try.underlying22 hj0 hy0 hy1 hy2 rfl (by decide) _ k _ rfl ((own_keep hO hb2).alloc _) ⟨w2.heap.size, 0, none⟩ 1 1 [.slice A2 row.length c2] rfl rfl (enc_news _ rfl) one_slice (by omega) (by unfold maxLen; omega) (by omega) (by simp; omega) (w2.heap.size + 1) (by simp) ?_; intro g4 c4 w4 hown4 hgrow4 hat4 hlt4)
        have hB4 := own_below (balloc (bstep hb hb2) (.cells #[.slice A2 row.length c2] 31)) ((own_keep hO hb2).alloc _) hgrow4 (Nat.le_refl _) (by simp; omega)
        have hne := r2.apart hO (Nat.le_refl _)
        have hE4 := ((hE.keep hb2).keep (balloc (Below.refl _ _) (.cells #[.slice A2 row.length c2] 31))).push ((r2.mono hsz).keep (balloc (Below.refl _ _) (.cells #[.slice A2 row.length c2] 31))) hcp2 hne hgrow4 hat4 (by simp)
        go_roundg (gk - 1)
        case rel => exact ⟨k + 1, _, by have := HK.out; omega, by go_num, hown4, by rw [HFS.out]; exact hE4, hB4⟩
        case measure => have := HK.out; omega
      · obtain rfl : k = b.length := by omega
        have hR := own_RLL hO hE
        go_wp2
        go_ret2
        exact RetLL.own HS.out (fullL_len _ _) hR (bstep hb1 hb)
  · have c0 : (bothE12 p b != 0) = true := by rw [bne_iff_ne]; exact h0
    have HS : Hid (shiftS p b d = ([], bothE12 p b)) := Lib.hid (by unfold shiftS; rw [if_pos h0])
    clear h0
    go_enter Try.func14, Try.ntmps14
    go_wp2_with fail
    refine (HB.out _ hx).mono ?_
    rintro _ w1 ⟨rfl, hb1⟩
    have hx1 := hx.keep hb1
    go_wp2_with fail
    refine (HB.out _ hx1).mono ?_
    rintro _ w2 ⟨rfl, hb2⟩
    go_wp2
    go_ret2
    exact RetLL.no HS.out (bstep hb1 hb2)
end Bk
end Go.Proofs.Ytnhjeelcgfobnaa
