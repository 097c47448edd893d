/-
  Layer 12 (bank), contracts of the reference: Add, Power.
-/
import Derived.Test.YtnhjeelcgfobnaaBkJ
namespace Go.Proofs.Ytnhjeelcgfobnaa
open Go.RowKit Num
set_option maxRecDepth 8000
set_option linter.unusedVariables false
set_option linter.unusedSimpArgs false
namespace Bk
open Lol

set_option maxHeartbeats 4000000 in
theorem refAdd_any (p : Int) (A : Option Addr) (c : Nat) (a : List (List Int)) (B : Option Addr) (d : Nat) (b : List (List Int)) (w : World) (hp1 : -9223372036854775808 ≤ p) (hp2 : p ≤ 9223372036854775807) (hx : RLL .i64 w A a) (hy : RLL .i64 w B b) :
    Calls Try.prog 12 #[.int .i64 p, .slice A a.length c, .slice B b.length d] w (RetLL .i64 w (addS p a b)) := by
  have HC := Lib.hid (fun w hx hy => refTwo_any p A c a B d b w hp1 hp2 hx hy)
  by_cases h0 : twoE p a b = 0
  · obtain ⟨P, rfl, h7, hP2, hP, hBa, hBb, hll, hww⟩ := two_zero h0
    have hN256 := hBa.len
    have hw16 := hBa.wid16
    have c0 : (twoE (P : Int) a b != 0) = false := by rw [h0]; rfl
    have HS : Hid (addS P a b = (grd (addF P a b) (wid a) a.length, 0)) := Lib.hid (by unfold addS; rw [if_neg (by simp [h0])])
    have HPR := Lib.hid (prods_of hBa hBb hll hww)
    obtain ⟨i0, hi0, hz0, hz1, hz2⟩ := info_int64
    obtain ⟨j0, hj0, jy0, jy1, jy2⟩ := info_parts info_ints64
    clear h0 hBa hBb hll hww hP
    generalize wid a = n at *
    go_enter Try.func12, Try.ntmps12
    go_wp2_with fail
    refine (HC.out _ hx hy).mono ?_
    rintro _ w1 ⟨rfl, hb1⟩
    have hx1 := hx.keep hb1
    have hy1 := hy.keep hb1
    go_wp2
    go_loopg [8, 9] a.length (fun gk v i wr => ∃ (t : Nat) (raws : List Value), t + gk = a.length ∧ i = .int .i64 t ∧ wr.ownsRow w1.heap.size 31 1 v t raws ∧ Els .i64 w1.heap.size wr v.ownBlock raws (grd (addF P a b) n t) ∧ Below w1.heap.size w1 wr)
    case atStart => exact ⟨0, [], by omega, rfl, World.ownsRow_nil _ _ _ _, Els.nil, Below.refl _ _⟩
    case round =>
      obtain ⟨t, raws, ht, rfl, hO, hE, hb⟩ := hrel
      have ht' : t ≤ a.length := by omega
      have HK := Lib.hid ht
      clear ht
      have hsz := hb.size
      obtain ⟨As, cs, rfl, hcs⟩ := own_shape' hO
      by_cases hlt : t < a.length
      · have hlt2 : t < b.length := by rw [HPR.out.lb]; exact hlt
        obtain ⟨b1, off1, A', c', rfl, hlw1, hc1, hr, hcap1⟩ := hx1.at_ (i := t) hlt
        obtain ⟨b2, off2, B', d', rfl, hlw2, hc2, hs, hcap2⟩ := hy1.at_ (i := t) hlt2
        obtain ⟨ea, fa⟩ := HPR.out.ra t hlt
        obtain ⟨eb, fb⟩ := HPR.out.rb t hlt2
        have HGS := Lib.hid (grd_succ (addF P a b) n t)
        have HAF := Lib.hid (show ∀ k, addF P a b t k = (a[t].getD k 0 + b[t].getD k 0) % (P : Int) from fun k => by unfold addF; rw [bat_at hlt, bat_at hlt2])
        generalize hla : a[t] = la at *
        generalize hlb : b[t] = lb at *
        clear hla hlb
        have HF2 : Hid (∀ k, addF (P : Int) a b t k = (la.getD k 0 + lb.getD k 0) % (P : Int)) := HAF
        clear HAF
        generalize addF (P : Int) a b t = F at *
        rw [ea] at hc1 hcap1
        rw [eb] at hc2 hcap2
        obtain ⟨wo, rfl⟩ : ∃ wo : World, wo = wr := ⟨_, rfl⟩
        obtain ⟨gu, rfl⟩ : ∃ gu : Nat, gu = gk := ⟨_, rfl⟩
        go_wp2
        go_loopg [10, 11] n (fun gk v i wr => ∃ k : Nat, k + gk = n ∧ i = .int .i64 k ∧ wr.ownsRow wo.heap.size 2 1 v k ((fullL F k).flatMap (encI .i64)) ∧ Below wo.heap.size wo wr)
        case atStart => exact ⟨0, by omega, rfl, World.ownsRow_nil _ _ _ _, Below.refl _ _⟩
        case round =>
          obtain ⟨k, hk, rfl, hR, hb2⟩ := hrel
          have hk' : k ≤ n := by omega
          have HKK := Lib.hid hk
          clear hk
          obtain ⟨A8, c8, rfl, hc8⟩ := own_shape' hR
          have hB2 := bstep hb hb2
          have hsz2 := hb2.size
          have hcr := (hB2.cell (p := ⟨b1, off1 + t, none⟩) hlw1).trans hc1
          have hcs2 := (hB2.cell (p := ⟨b2, off2 + t, none⟩) hlw2).trans hc2
          by_cases hlk : k < n
          · obtain ⟨b3, off3, rfl, hlw3, hc3⟩ := hr.at2 (i := k) (by rw [ea]; exact hlk)
            obtain ⟨b4, off4, rfl, hlw4, hc4⟩ := hs.at2 (i := k) (by rw [eb]; exact hlk)
            have bx := fa k hlk
            have by' := fb k hlk
            have HN := Lib.hid (HF2.out k)
            generalize la.getD k 0 = X at *
            generalize lb.getD k 0 = Y at *
            obtain ⟨Z, hZ⟩ : ∃ Z, Z = X + Y := ⟨_, rfl⟩
            have hw2 : IntKind.i64.wrap (X + Y) = Z := by rw [IntWalk.i64_in _ (by omega), hZ]
            have hZ0 : 0 ≤ Z := by omega
            have HN2 := Lib.hid (show Z.tmod (P : Int) = F k by rw [Int.tmod_eq_emod_of_nonneg hZ0, HN.out, hZ])
            clear hZ
            have hzP : ((P : Int) == 0) = false := by rw [beq_eq_false_iff_ne]; omega
            have hzP2 : ¬ ((P : Int) = 0) := by omega
            have hzP3 : ¬ (P = 0) := by omega
            have HQ := Lib.hid (fun W (hBW : Below w1.heap.size w1 W) => (show (W.cell? ⟨b1, off1 + t, none⟩ = some (.slice (some ⟨b3, off3, none⟩) n c') ∧ W.cell? ⟨b2, off2 + t, none⟩ = some (.slice (some ⟨b4, off4, none⟩) n d')) ∧ W.cell? ⟨b3, off3 + k, none⟩ = some (.int .i64 X) ∧ W.cell? ⟨b4, off4 + k, none⟩ = some (.int .i64 Y) from
              ⟨⟨(hBW.cell (p := ⟨b1, off1 + t, none⟩) hlw1).trans hc1, (hBW.cell (p := ⟨b2, off2 + t, none⟩) hlw2).trans hc2⟩, (hBW.cell (p := ⟨b3, off3 + k, none⟩) hlw3).trans hc3, (hBW.cell (p := ⟨b4, off4 + k, none⟩) hlw4).trans hc4⟩))
            have hka : k < n := hlk
            go_wp2
            go_region_held3 (fun W => (W.cell? ⟨b1, off1 + t, none⟩ = some (.slice (some ⟨b3, off3, none⟩) n c') ∧ W.cell? ⟨b2, off2 + t, none⟩ = some (.slice (some ⟨b4, off4, none⟩) n d')) ∧ W.cell? ⟨b3, off3 + k, none⟩ = some (.int .i64 X) ∧ W.cell? ⟨b4, off4 + k, none⟩ = some (.int .i64 Y))
              (first | exact HQ.out _ hB2.drew | exact HQ.out _ hB2 | exact HQ.out _ (balloc hB2 _).drew | exact HQ.out _ (balloc hB2 _) | exact HQ.out _ (bstep hb hB4) | go_keep | fail)
              ((refine step_append_lies _ (by rfl) (.tmp 36) (.tmp 54) _ (by rfl) wo.heap.size 2 i0 _ 1 8 Try.underlying31 hi0 hz0 hz1 hz2 rfl (by omega) _ k _ (by rfl) (World.ownsRow.drew (hR.alloc (.cells #[.int .i64 (Z.tmod (P : Int))] 2))) ⟨wr.heap.size, 0, none⟩ 1 1 (encI .i64 (Z.tmod (P : Int))) (by rfl) (by rfl) (encI_news wr _ _ _) (encI_one _ _) (by omega) (by unfold maxLen; omega) (by omega) (by simp [World.drew]; omega) (wr.heap.size + 1) (by simp [World.drew]) ?_; intro g4 c4 w4 hown4 hgrow4 hat4 hlt4; have hB4 := own_below (balloc hb2 (.cells #[.int .i64 (Z.tmod (P : Int))] 2)).drew (World.ownsRow.drew (hR.alloc (.cells #[.int .i64 (Z.tmod (P : Int))] 2))) hgrow4 (Nat.le_refl _) (by simp [World.drew]; omega)))
            all_goals go_wp2
            all_goals
              go_roundg (gk - 1)
              case rel => exact ⟨k + 1, by have := HKK.out; omega, by go_num, by rw [fullL_succ, flat_snoc, ← HN2.out]; exact hown4, hB4⟩
              case measure => have := HKK.out; omega
          · have ek : k = n := by omega
            have HEK := Lib.hid ek
            have r2 := own_RIo_at (fullL_len F k) hR
            have HFL := Lib.hid (fullL_len F k)
            clear ek
            go_wp2_with (at_builtin; refine wpList_append_lies _ rfl (.tmp 56) (.tmp 58) 22 rfl w1.heap.size 31 j0 _ 1 24 Try.underlying22 hj0 jy0 jy1 jy2 rfl (by decide) _ t _ rfl (World.ownsRow.alloc (own_keep hO hb2) _) ⟨wr.heap.size, 0, none⟩ 1 1 [.slice A8 k c8] rfl rfl (enc_news _ rfl) one_slice (by omega) (by unfold maxLen; omega) (by omega) (by simp; omega) (wr.heap.size + 1) (by simp) ?_; intro g4 c4 w4 hown4 hgrow4 hat4 hlt4)
            have hB4 := own_below (balloc (bstep hb hb2) (.cells #[.slice A8 k c8] 31)) ((own_keep hO hb2).alloc _) hgrow4 (Nat.le_refl _) (by simp; omega)
            have hne := r2.apart hO (Nat.le_refl _)
            have hE4 := ((hE.keep hb2).keep (balloc (Below.refl _ _) (.cells #[.slice A8 k c8] 31))).push (c := c8) ((r2.mono hsz).keep (balloc (Below.refl _ _) (.cells #[.slice A8 k c8] 31))) (by rw [HFL.out]; exact hc8) hne hgrow4 hat4 (by simp)
            rw [HFL.out] at hE4
            have hE5 : Els .i64 w1.heap.size w4 (some g4) (raws ++ [.slice A8 k c8]) (grd (addF (P : Int) a b) n (t + 1)) := by
              rw [HGS.out, show fullL F n = fullL F k by rw [HEK.out]]
              exact hE4
            go_roundg (gu - 1)
            case rel => exact ⟨t + 1, _, by have := HK.out; omega, by go_num, hown4, hE5, hB4⟩
            case measure => have := HK.out; omega
      · obtain rfl : t = a.length := by omega
        have hR := own_RLL hO hE
        go_wp2
        go_ret2
        exact RetLL.own HS.out (grd_len _ _ _) hR (bstep hb1 hb)
  · have c0 : (twoE p a b != 0) = true := by rw [bne_iff_ne]; exact h0
    have HS : Hid (addS p a b = ([], twoE p a b)) := Lib.hid (by unfold addS; rw [if_pos h0])
    clear h0
    go_enter Try.func12, Try.ntmps12
    go_wp2_with fail
    refine (HC.out _ hx hy).mono ?_
    rintro _ w1 ⟨rfl, hb1⟩
    have hx1 := hx.keep hb1
    have hy1 := hy.keep hb1
    go_wp2_with fail
    refine (HC.out _ hx1 hy1).mono ?_
    rintro _ w2 ⟨rfl, hb2⟩
    go_wp2
    go_ret2
    exact RetLL.no HS.out (bstep hb1 hb2)
end Bk
end Go.Proofs.Ytnhjeelcgfobnaa
