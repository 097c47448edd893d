/-
  Layer 12 (bank), contracts of the reference: Keep, Add, Power.
-/
import Derived.Test.YtnhjeelcgfobnaaBkI
namespace Go.Proofs.Ytnhjeelcgfobnaa
open Go.RowKit Num
set_option maxRecDepth 8000
set_option linter.unusedVariables false
set_option linter.unusedSimpArgs false
namespace Bk
open Lol

theorem partL_skip {f : Nat → Int} {n k : Nat} (h : k < n) (h0 : f k = 0) : partL f 0 n (k + 1) = partL f 0 n k := by
  rw [← partL_set f 0 n k 0 h0.symm, partL_zero h]
set_option maxHeartbeats 4000000 in
theorem refKeep_any (p : Int) (A : Option Addr) (c : Nat) (b : List (List Int)) (K : Option Addr) (ck : Nat) (kp : List Bool) (w : World) (hp1 : -9223372036854775808 ≤ p) (hp2 : p ≤ 9223372036854775807) (hx : RLL .i64 w A b) (hy : RBo w K kp) :
    Calls Try.prog 25 #[.int .i64 p, .slice A b.length c, .slice K kp.length ck] w (RetLL .i64 w (keepS p b kp)) := by
  have HB := Lib.hid (fun w hx => refBoth_any p A c b w hp1 hp2 hx)
  by_cases h0 : bothE12 p b = 0
  · obtain ⟨P, rfl, h7, hP2, hP, hBk⟩ := both_zero h0
    have hN256 := hBk.len
    have hw16 := hBk.wid16
    have c0 : (bothE12 (P : Int) b != 0) = false := by rw [h0]; rfl
    by_cases hN : b.length = 0
    · have d1 : decide (0 < (b.length : Int)) = false := decide_eq_false (by omega)
      have d1' : decide (0 < b.length) = false := decide_eq_false (by omega)
      have HS : Hid (keepS P b kp = ([], 0)) := Lib.hid (by unfold keepS; rw [if_neg (by simp [h0]), if_neg (by omega), hN]; rfl)
      clear h0 hBk hP hN
      go_enter Try.func25, Try.ntmps25
      go_wp2_with fail
      refine (HB.out _ hx).mono ?_
      rintro _ w1 ⟨rfl, hb1⟩
      have hx1 := hx.keep hb1
      go_wp2
      refine wp_loop_rounds 1 ?_
      rw [rounds_succ]
      have d2 : decide ((0 : Int) < (b.length : Int)) = false := d1
      go_wp2
      go_ret2
      exact RetLL.no HS.out hb1
    · have d1 : decide (0 < (b.length : Int)) = true := decide_eq_true (by omega)
      have d1' : decide (0 < b.length) = true := decide_eq_true (by omega)
      have hNp : 0 < b.length := by omega
      have ew := wid_at hNp
      by_cases hK : kp.length = wid b
      · have d2 : ((wid b : Int) != (kp.length : Int)) = false := by simp [hK]
        have HS : Hid (keepS P b kp = (grd (keepF b kp) (wid b) b.length, 0)) := Lib.hid (by unfold keepS; rw [if_neg (by simp [h0]), if_neg (by omega)])
        have HR := Lib.hid (fun t (ht : t < b.length) => (hBk.row t ht).1)
        have HKL := Lib.hid hK
        obtain ⟨j0, hj0, hy0, hy1, hy2⟩ := info_parts info_ints64
        obtain ⟨i0, hi0, hz0, hz1, hz2⟩ := info_int64
        have hmk := mk_row (P := Try.prog) 31 2 Try.underlying31 hi0 hz0 hz1 hz2 (encI .i64) (encI_len .i64) (by omega) 0 rfl (wid b) (by omega) (by omega)
        clear h0 hN hBk hP hK
        go_enter Try.func25, Try.ntmps25
        go_wp2_with fail
        refine (HB.out _ hx).mono ?_
        rintro _ w1 ⟨rfl, hb1⟩
        have hx1 := hx.keep hb1
        have hy1' := hy.keep hb1
        obtain ⟨b0, off0, A0, c0', rfl, hlw0, hc0, _, _⟩ := hx1.at_ hNp
        rw [Nat.add_zero, ← ew] at hc0
        clear ew
        generalize wid b = n at *
        go_wp2
        go_loopg [8, 9] b.length (fun gk v i wr => ∃ (t : Nat) (raws : List Value), t + gk = b.length ∧ i = .int .i64 t ∧ wr.ownsRow w1.heap.size 31 1 v t raws ∧ Els .i64 w1.heap.size wr v.ownBlock raws (grd (keepF b kp) n t) ∧ Below w1.heap.size w1 wr)
        case atStart => exact ⟨0, [], by omega, rfl, World.ownsRow_nil _ _ _ _, Els.nil, Below.refl _ _⟩
        case round =>
          clear hc0 d1 d1'
          obtain ⟨t, raws, ht, rfl, hO, hE, hb⟩ := hrel
          have ht' : t ≤ b.length := by omega
          have HK := Lib.hid ht
          clear ht
          have hsz := hb.size
          obtain ⟨As, cs, rfl, hcs⟩ := own_shape' hO
          by_cases hlt : t < b.length
          · obtain ⟨b1, off1, A', c', e1, hlw1, hc1, hr, hcap1⟩ := hx1.at_ (i := t) hlt
            obtain ⟨rfl, rfl⟩ : b0 = b1 ∧ off0 = off1 := by injection e1 with e1; injection e1 with e3 e4; exact ⟨e3, e4⟩
            clear e1
            have er := HR.out t hlt
            have HGS := Lib.hid (grd_succ (keepF b kp) n t)
            have HKF := Lib.hid (show ∀ k, keepF b kp t k = if kp.getD k false = true then b[t].getD k 0 else 0 from fun k => by unfold keepF; rw [bat_at hlt])
            generalize hl : b[t] = l at *
            clear hl
            have HF2 : Hid (∀ k, keepF b kp t k = if kp.getD k false = true then l.getD k 0 else 0) := HKF
            clear HKF
            generalize keepF b kp t = F at *
            rw [er] at hc1 hcap1
            have hc2 := (hb.cell (p := ⟨b0, off0 + t, none⟩) hlw1).trans hc1
            obtain ⟨wo, rfl⟩ : ∃ wo : World, wo = wr := ⟨_, rfl⟩
            obtain ⟨gu, rfl⟩ : ∃ gu : Nat, gu = gk := ⟨_, rfl⟩
            go_wp2
            go_loopg [11] n (fun gk i wr => ∃ k : Nat, k + gk = n ∧ i = .int .i64 k ∧ Blk wr wo.heap.size 2 ((partL F 0 n k).flatMap (encI .i64)).toArray ∧ Below wo.heap.size wo wr)
            case atStart => exact ⟨0, by omega, rfl, by rw [partL_start]; exact Blk.new wo 2 _, balloc (Below.refl _ _) _⟩
            case round =>
              clear hmk
              obtain ⟨k, hk, rfl, hR, hb2⟩ := hrel
              have hk' : k ≤ n := by omega
              have HKK := Lib.hid hk
              clear hk
              have hRl := hR.lt
              have hcr := (hb2.cell (p := ⟨b0, off0 + t, none⟩) (Nat.lt_of_lt_of_le hlw1 hsz)).trans hc2
              by_cases hlk : k < n
              · obtain ⟨b3, off3, rfl, hlw3, hc3⟩ := hy1' (by rw [HKL.out]; omega)
                replace hc3 := hc3 k (by rw [HKL.out]; exact hlk)
                have hc4 := ((bstep hb hb2).cell (p := ⟨b3, off3 + k, none⟩) hlw3).trans hc3
                have HFk := Lib.hid (HF2.out k)
                have hkl2 : k < kp.length := by rw [HKL.out]; exact hlk
                generalize kp.getD k false = z at *
                cases z
                · have HE := Lib.hid (partL_skip (f := F) hlk (by rw [HFk.out]; rfl))
                  go_wp2
                  go_roundg (gk - 1)
                  case rel => exact ⟨k + 1, by have := HKK.out; omega, by go_num, by rw [HE.out]; exact hR, hb2⟩
                  case measure => have := HKK.out; omega
                · obtain ⟨b5, off5, rfl, hlw5, hc5⟩ := hr.at2 (i := k) (by rw [er]; exact hlk)
                  have hc6 := ((bstep hb hb2).cell (p := ⟨b5, off5 + k, none⟩) hlw5).trans hc5
                  have hkl3 : k < l.length := by rw [er]; exact hlk
                  have HE := Lib.hid (partL_set F 0 n k (l.getD k 0) (by rw [HFk.out]; rfl))
                  have r0 := blkI_at hR (j := k) (by rw [partL_len]; exact hlk)
                  have r1 := hR.frozen k
                  generalize l.getD k 0 = x at *
                  go_wp2
                  go_roundg (gk - 1)
                  case rel => exact ⟨k + 1, by have := HKK.out; omega, by go_num, by rw [← HE.out]; exact blkI_set hR (by rw [partL_len]; exact hlk) _, hb2.setCell (p := ⟨wo.heap.size, k, none⟩) (Nat.le_refl _) _⟩
                  case measure => have := HKK.out; omega
              · rw [partL_end _ _ _ _ (by omega)] at hR
                have r2 := blk_RIo hR (Nat.le_refl _)
                have hs2 := hb2.size
                have HFL := Lib.hid (fullL_len F n)
                go_wp2_with (at_builtin; refine wpList_append_lies _ rfl (.tmp 63) (.tmp 65) 22 rfl w1.heap.size 31 j0 _ 1 24 Try.underlying22 hj0 hy0 hy1 hy2 rfl (by decide) _ t _ rfl (World.ownsRow.alloc (own_keep hO hb2) _) ⟨wr.heap.size, 0, none⟩ 1 1 [.slice (some ⟨wo.heap.size, 0, none⟩) n n] rfl rfl (enc_news _ rfl) one_slice (by omega) (by unfold maxLen; omega) (by omega) (by simp; omega) (wr.heap.size + 1) (by simp) ?_; intro g4 c4 w4 hown4 hgrow4 hat4 hlt4)
                have hB4 := own_below (balloc (bstep hb hb2) (.cells #[.slice (some ⟨wo.heap.size, 0, none⟩) n n] 31)) ((own_keep hO hb2).alloc _) hgrow4 (Nat.le_refl _) (by simp; omega)
                have hne := r2.apart hO (Nat.le_refl _)
                have hE4 := ((hE.keep hb2).keep (balloc (Below.refl _ _) (.cells #[.slice (some ⟨wo.heap.size, 0, none⟩) n n] 31))).push (c := n) ((r2.mono hsz).keep (balloc (Below.refl _ _) (.cells #[.slice (some ⟨wo.heap.size, 0, none⟩) n n] 31))) (by rw [HFL.out]; exact Nat.le_refl _) hne hgrow4 hat4 (by simp)
                rw [HFL.out, ← HGS.out] at hE4
                go_roundg (gu - 1)
                case rel => exact ⟨t + 1, _, by have := HK.out; omega, by go_num, hown4, hE4, hB4⟩
                case measure => have := HK.out; omega
          · obtain rfl : t = b.length := by omega
            have hR := own_RLL hO hE
            go_wp2
            go_ret2
            exact RetLL.own HS.out (grd_len _ _ _) hR (bstep hb1 hb)
      · have d2 : ((wid b : Int) != (kp.length : Int)) = true := by rw [bne_iff_ne]; omega
        have HS : Hid (keepS P b kp = ([], 2)) := Lib.hid (by unfold keepS; rw [if_neg (by simp [h0]), if_pos (by omega)])
        clear h0 hN hBk hP hK
        go_enter Try.func25, Try.ntmps25
        go_wp2_with fail
        refine (HB.out _ hx).mono ?_
        rintro _ w1 ⟨rfl, hb1⟩
        have hx1 := hx.keep hb1
        obtain ⟨b0, off0, A0, c0', rfl, hlw0, hc0, _, _⟩ := hx1.at_ hNp
        rw [Nat.add_zero, ← ew] at hc0
        clear ew
        generalize wid b = n at *
        go_wp2
        go_ret2
        exact RetLL.no HS.out hb1
  · have c0 : (bothE12 p b != 0) = true := by rw [bne_iff_ne]; exact h0
    have HS : Hid (keepS p b kp = ([], bothE12 p b)) := Lib.hid (by unfold keepS; rw [if_pos h0])
    clear h0
    go_enter Try.func25, Try.ntmps25
    go_wp2_with fail
    refine (HB.out _ hx).mono ?_
    rintro _ w1 ⟨rfl, hb1⟩
    have hx1 := hx.keep hb1
    go_wp2_with fail
    refine (HB.out _ hx1).mono ?_
    rintro _ w2 ⟨rfl, hb2⟩
    go_wp2
    go_ret2
    exact RetLL.no HS.out (bstep hb1 hb2)
end Bk
end Go.Proofs.Ytnhjeelcgfobnaa
