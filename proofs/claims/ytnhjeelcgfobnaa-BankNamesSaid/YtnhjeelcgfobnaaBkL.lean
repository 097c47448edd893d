/-
  Layer 12 (bank), contracts of the reference: Power.
-/
import Derived.Test.YtnhjeelcgfobnaaBkK
namespace Go.Proofs.Ytnhjeelcgfobnaa
open Go.RowKit Num
set_option maxRecDepth 8000
set_option linter.unusedVariables false
set_option linter.unusedSimpArgs false
namespace Bk
open Lol

set_option maxHeartbeats 4000000 in
theorem refPower_any (p : Int) (A : Option Addr) (c : Nat) (a : List (List Int)) (B : Option Addr) (d : Nat) (b : List (List Int)) (w : World) (hp1 : -9223372036854775808 ≤ p) (hp2 : p ≤ 9223372036854775807) (hx : RLL .i64 w A a) (hy : RLL .i64 w B b) :
    Calls Try.prog 16 #[.int .i64 p, .slice A a.length c, .slice B b.length d] w (RetFE w (powS p a b)) := by
  have HC := Lib.hid (fun w hx hy => refTwo_any p A c a B d b w hp1 hp2 hx hy)
  by_cases h0 : twoE p a b = 0
  · obtain ⟨P, rfl, h7, hP2, hP, hBa, hBb, hll, hww⟩ := two_zero h0
    have hN256 := hBa.len
    have hw16 := hBa.wid16
    have c0 : (twoE (P : Int) a b != 0) = false := by rw [h0]; rfl
    have HS : Hid (powS P a b = (fullL (powF P a b (wid a)) (wid a), 0)) := Lib.hid (by unfold powS; rw [if_neg (by simp [h0])])
    by_cases hN : a.length = 0
    · have d1 : ((a.length : Int) == 0) = true := by rw [beq_iff_eq]; omega
      have HS2 : Hid (powS P a b = ([], 0)) := Lib.hid (by rw [HS.out, List.eq_nil_of_length_eq_zero hN]; rfl)
      clear h0 hBa hBb hll hww hP hN
      go_enter Try.func16, Try.ntmps16
      go_wp2_with fail
      refine (HC.out _ hx hy).mono ?_
      rintro _ w1 ⟨rfl, hb1⟩
      have hx1 := hx.keep hb1
      have hy1 := hy.keep hb1
      go_wp2
      go_ret2
      exact RetFE.no HS2.out hb1
    · have d1 : ((a.length : Int) == 0) = false := by rw [beq_eq_false_iff_ne]; omega
      have hNp : 0 < a.length := by omega
      have ew := wid_at hNp
      have HPR := Lib.hid (prods_of hBa hBb hll hww)
      obtain ⟨i0, hi0, hz0, hz1, hz2⟩ := info_int64
      clear h0 hBa hBb hll hww hP hN
      go_enter Try.func16, Try.ntmps16
      go_wp2_with fail
      refine (HC.out _ hx hy).mono ?_
      rintro _ w1 ⟨rfl, hb1⟩
      have hx1 := hx.keep hb1
      have hy1 := hy.keep hb1
      obtain ⟨b0, off0, A0, c0', rfl, hlw0, hc0, _, _⟩ := hx1.at_ hNp
      rw [Nat.add_zero, ← ew] at hc0
      clear ew
      generalize wid a = n at *
      have HF : Hid (∀ k, powF P a b n k = sumM (P : Int) (fun t => bat a t k * bat b t ((n - k) % n)) a.length) := Lib.hid (fun k => rfl)
      go_wp2
      (try clear d1)
      clear hc0
      go_loopg [9, 10] n (fun gk v i wr => ∃ k : Nat, k + gk = n ∧ i = .int .i64 k ∧ wr.ownsRow w1.heap.size 2 1 v k ((fullL (powF P a b n) k).flatMap (encI .i64)) ∧ Below w1.heap.size w1 wr)
      case atStart => exact ⟨0, by omega, rfl, World.ownsRow_nil _ _ _ _, Below.refl _ _⟩
      case round =>
        obtain ⟨k, hk, rfl, hO, hb⟩ := hrel
        have hk' : k ≤ n := by omega
        have HK := Lib.hid hk
        clear hk
        have hsz := hb.size
        obtain ⟨A8, c8, rfl, hc8⟩ := own_shape' hO
        by_cases hlt : k < n
        · obtain ⟨wo, rfl⟩ : ∃ wo : World, wo = wr := ⟨_, rfl⟩
          obtain ⟨gu, hgu⟩ : ∃ gu, gu = gk := ⟨gk, rfl⟩
          have HGU := Lib.hid hgu
          clear hgu
          have hx2 := hx1.keep hb
          have hy2 := hy1.keep hb
          go_wp2
          go_loopg [11, 12] a.length (fun gk v i wr => ∃ (t : Nat) (s : Int) (q : Nat), t + gk = a.length ∧ v = .int .i64 s ∧ i = .int .i64 t ∧ 0 ≤ s ∧ s < P ∧ Hid (s = sumM (P : Int) (fun t => bat a t k * bat b t ((n - k) % n)) t) ∧ wr = wo.drewN q)
          case atStart => exact ⟨0, 0, 0, by omega, rfl, rfl, by omega, by omega, Lib.hid rfl, rfl⟩
          case round =>
            obtain ⟨t, s, q, ht, rfl, rfl, hs1, hs2, HS2, rfl⟩ := hrel
            have ht' : t ≤ a.length := by omega
            have HJ := Lib.hid ht
            clear ht
            by_cases hlt2 : t < a.length
            · obtain ⟨b1, off1, A', c', e1, hlw1, hc1, hr, hcap1⟩ := hx2.at_ (i := t) hlt2
              obtain ⟨rfl, rfl⟩ : b0 = b1 ∧ off0 = off1 := by injection e1 with e1; injection e1 with e3 e4; exact ⟨e3, e4⟩
              clear e1
              have hlt3 : t < b.length := by rw [HPR.out.lb]; exact hlt2
              obtain ⟨b2, off2, B', d', rfl, hlw2, hc2, hs, hcap2⟩ := hy2.at_ (i := t) hlt3
              have hm : (n - k) % n < n := Nat.mod_lt _ (by omega)
              obtain ⟨ea, fa⟩ := HPR.out.ra t hlt2
              obtain ⟨eb, fb⟩ := HPR.out.rb t hlt3
              have bx := fa k hlt
              have by' := fb _ hm
              obtain ⟨b3, off3, rfl, hlw3, hc3⟩ := hr.at2 (i := k) (by rw [ea]; exact hlt)
              obtain ⟨b4, off4, rfl, hlw4, hc4⟩ := hs.at2 (i := (n - k) % n) (by rw [eb]; exact hm)
              have HN := Lib.hid (show sumM (P : Int) (fun t => bat a t k * bat b t ((n - k) % n)) (t + 1) = (s + a[t].getD k 0 * b[t].getD ((n - k) % n) 0) % P by
                rw [HS2.out, ← bat_at hlt2, ← bat_at hlt3]; rfl)
              have hD1 : IntKind.i64.wrap ((n : Int) - (k : Int)) = ((n - k : Nat) : Int) := by rw [IntWalk.i64_in _ (by omega)]; omega
              generalize hla : a[t] = la at *
              generalize hlb : b[t] = lb at *
              clear hla hlb fa fb
              have hka : k < la.length := by rw [ea]; exact hlt
              have hmb : (n - k) % n < lb.length := by rw [eb]; exact hm
              obtain ⟨D, hD⟩ : ∃ D, D = n - k := ⟨_, rfl⟩
              have hDn : 1 ≤ D ∧ D ≤ n := by omega
              rw [← hD] at hD1 HN hc4 hm by' hmb HS2
              generalize hM : D % n = m at *
              have hM2 : (D : Int) % (n : Int) = (m : Int) := by rw [← Int.natCast_emod, hM]
              have HME := Lib.hid (show (n - k) % n = m by rw [← hD]; exact hM)
              clear hM ea eb
              have HD := Lib.hid hD
              clear hD
              generalize la.getD k 0 = X at *
              generalize lb.getD m 0 = Y at *
              have fm := fit_mul (s := s) hP2 bx by'
              obtain ⟨Z, hZ⟩ : ∃ Z, Z = X * Y := ⟨_, rfl⟩
              have hw2 : IntKind.i64.wrap (X * Y) = Z := by rw [IntWalk.i64_in _ (by omega), hZ]
              rw [← hZ] at HN fm
              clear hZ
              have hpos : 0 < (P : Int) := by omega
              have r1 := Int.emod_nonneg (s + Z) (show (P : Int) ≠ 0 by omega)
              have r2 := Int.emod_lt_of_pos (s + Z) hpos
              obtain ⟨T, hT⟩ : ∃ T, T = s + Z := ⟨_, rfl⟩
              have hw3 : IntKind.i64.wrap (s + Z) = T := by rw [IntWalk.i64_in _ (by omega), hT]
              have hT0 : 0 ≤ T := by omega
              rw [← hT] at HN r1 r2
              clear hT
              have HTM := Lib.hid (Int.tmod_eq_emod_of_nonneg (b := (P : Int)) hT0)
              have hzn : ((n : Int) == 0) = false := by rw [beq_eq_false_iff_ne]; omega
              have hzp : ((P : Int) == 0) = false := by rw [beq_eq_false_iff_ne]; omega
              go_wp2
              go_quiet (fail)
              go_wp2
              go_roundg (gk - 1)
              case rel => exact ⟨t + 1, T % P, _, by have := HJ.out; omega, by first | rfl | (rw [HTM.out]), by go_num, r1, r2, Lib.hid (by rw [HME.out]; exact HN.out.symm), rfl⟩
              case measure => have := HJ.out; omega
            · have hfin : s = powF P a b n k := by rw [HS2.out, HF.out, show t = a.length by omega]
              have HFIN := Lib.hid hfin
              clear hfin hx2 hy2
              have hO2 : (World.drewN wo q).ownsRow w1.heap.size 2 1 (.slice A8 k c8) k ((fullL (powF P a b n) k).flatMap (encI .i64)) := own_keep hO (below_drewN (Below.refl _ _) _)
              have hbq : Below w1.heap.size w1 (World.drewN wo q) := below_drewN hb _
              generalize World.drewN wo q = wq at *
              have hsq := hbq.size
              go_wp2_with (at_builtin; refine wpList_append_lies _ rfl (.tmp 63) (.tmp 65) 31 rfl w1.heap.size 2 i0 _ 1 8 Try.underlying31 hi0 hz0 hz1 hz2 rfl (by decide) _ k _ rfl (hO2.alloc _) ⟨wq.heap.size, 0, none⟩ 1 1 (encI .i64 s) rfl rfl (encI_news _ _ _ _) (encI_one _ _) (by omega) (by unfold maxLen; omega) (by omega) (by simp; omega) (wq.heap.size + 1) (by simp) ?_; intro g4 c4 w4 hown4 hgrow4 hat4 hlt4)
              have hB4 := own_below (balloc hbq (.cells #[.int .i64 s] 2)) (hO2.alloc _) hgrow4 (Nat.le_refl _) (by simp; omega)
              go_roundg (gu - 1)
              case rel => exact ⟨k + 1, by have := HK.out; have := HGU.out; omega, by go_num, by rw [fullL_succ, flat_snoc, ← HFIN.out]; exact hown4, hB4⟩
              case measure => have := HK.out; have := HGU.out; omega
        · obtain rfl : k = n := by omega
          have hR := own_RI_at (fullL_len _ _) hO
          go_wp2
          go_ret2
          exact RetFE.own HS.out (fullL_len _ _) hR (bstep hb1 hb)
  · have c0 : (twoE p a b != 0) = true := by rw [bne_iff_ne]; exact h0
    have HS : Hid (powS p a b = ([], twoE p a b)) := Lib.hid (by unfold powS; rw [if_pos h0])
    clear h0
    go_enter Try.func16, Try.ntmps16
    go_wp2_with fail
    refine (HC.out _ hx hy).mono ?_
    rintro _ w1 ⟨rfl, hb1⟩
    have hx1 := hx.keep hb1
    have hy1 := hy.keep hb1
    go_wp2_with fail
    refine (HC.out _ hx1 hy1).mono ?_
    rintro _ w2 ⟨rfl, hb2⟩
    go_wp2
    go_ret2
    exact RetFE.no HS.out (bstep hb1 hb2)
end Bk
end Go.Proofs.Ytnhjeelcgfobnaa
