/-
  Layer 12 (bank), contracts: Power of the program and of the reference.
-/
import Derived.Test.YtnhjeelcgfobnaaBkG
namespace Go.Proofs.Ytnhjeelcgfobnaa
open Go.RowKit Num
set_option maxRecDepth 8000
set_option linter.unusedVariables false
set_option linter.unusedSimpArgs false
namespace Bk
open Lol

/-- The facts of one product. -/
structure Prods (P n N : Nat) (a b : List (List Int)) : Prop where
  la : a.length = N
  lb : b.length = N
  ra : ∀ t (h : t < a.length), a[t].length = n ∧ ∀ k, k < n → 0 ≤ a[t].getD k 0 ∧ a[t].getD k 0 < P
  rb : ∀ t (h : t < b.length), b[t].length = n ∧ ∀ k, k < n → 0 ≤ b[t].getD k 0 ∧ b[t].getD k 0 < P
theorem prods_of {P : Nat} {a b : List (List Int)} (ha : Bank P (wid a) a) (hb : Bank P (wid b) b) (hl : a.length = b.length) (hw : wid a = wid b) : Prods P (wid a) a.length a b :=
  ⟨rfl, hl.symm, fun t h => ⟨(ha.row t h).1, (ha.row t h).2.2.2.2⟩, fun t h => ⟨(hb.row t h).1.trans hw.symm, fun k hk => (hb.row t h).2.2.2.2 k (by omega)⟩⟩
set_option maxHeartbeats 4000000 in
theorem power_any (p : Int) (A : Option Addr) (c : Nat) (a : List (List Int)) (B : Option Addr) (d : Nat) (b : List (List Int)) (w : World) (hp1 : -9223372036854775808 ≤ p) (hp2 : p ≤ 9223372036854775807) (hx : RLL .i64 w A a) (hy : RLL .i64 w B b) :
    Calls Try.prog 15 #[.int .i64 p, .slice A a.length c, .slice B b.length d] w (RetFE w (powS p a b)) := by
  have HC := Lib.hid (fun w hx hy => alike_any p A B c d a b w hp1 hp2 hx hy)
  by_cases h0 : twoE p a b = 0
  · obtain ⟨P, rfl, h7, hP2, hP, hBa, hBb, hll, hww⟩ := two_zero h0
    have hN256 := hBa.len
    have hw16 := hBa.wid16
    have c0 : (twoE (P : Int) a b != 0) = false := by rw [h0]; rfl
    have HS : Hid (powS P a b = (fullL (powF P a b (wid a)) (wid a), 0)) := Lib.hid (by unfold powS; rw [if_neg (by simp [h0])])
    have HPR := Lib.hid (prods_of hBa hBb hll hww)
    have HW := Lib.hid (fun w (h : RLL .i64 w A a) => width_any A c a w h)
    obtain ⟨i0, hi0, hz0, hz1, hz2⟩ := info_int64
    have hmk := mk_row (P := Try.prog) 31 2 Try.underlying31 hi0 hz0 hz1 hz2 (encI .i64) (encI_len .i64) (by omega) 0 rfl (wid a) (by omega) (by omega)
    clear h0 hBa hBb hll hww hP
    generalize wid a = n at *
    have HF : Hid (∀ k, powF P a b n k = sumM (P : Int) (fun t => bat a t k * bat b t ((n - k) % n)) a.length) := Lib.hid (fun k => rfl)
    go_enter Try.func15, Try.ntmps15
    go_wp2_with fail
    refine (HC.out _ hx hy).mono ?_
    rintro _ w1 ⟨rfl, hb1⟩
    have hx1 := hx.keep hb1
    have hy1 := hy.keep hb1
    go_wp2_with fail
    refine (HW.out _ hx1).mono ?_
    rintro _ _ ⟨rfl, rfl⟩
    go_wp2
    go_loopg [25] n (fun gk i wr => ∃ k : Nat, k + gk = n ∧ i = .int .i64 k ∧ Blk wr w1.heap.size 2 ((partL (powF P a b n) 0 n k).flatMap (encI .i64)).toArray ∧ Below w1.heap.size w1 wr)
    case atStart => exact ⟨0, by omega, rfl, by rw [partL_start]; exact Blk.new w1 2 _, balloc (Below.refl _ _) _⟩
    case round =>
      obtain ⟨k, hk, rfl, hO, hb⟩ := hrel
      have hk' : k ≤ n := by omega
      have HK := Lib.hid hk
      clear hk hmk
      by_cases hlt : k < n
      · obtain ⟨gu, hgu⟩ : ∃ gu, gu = gk := ⟨gk, rfl⟩
        have HGU := Lib.hid hgu
        clear hgu
        go_wp2
        go_loopg [30] a.length (fun gk i wr => ∃ (t : Nat) (s : Int), t + gk = a.length ∧ i = .int .i64 t ∧ 0 ≤ s ∧ s < P ∧ Hid (s = sumM (P : Int) (fun t => bat a t k * bat b t ((n - k) % n)) t) ∧ Blk wr w1.heap.size 2 (((partL (powF P a b n) 0 n k).set k s).flatMap (encI .i64)).toArray ∧ Below w1.heap.size w1 wr)
        case atStart => exact ⟨0, 0, by omega, rfl, by omega, by omega, Lib.hid rfl, by rw [partL_zero hlt]; exact hO, hb⟩
        case round =>
          clear hO hb
          obtain ⟨t, s, ht, rfl, hs1, hs2, HS2, hO2, hb2⟩ := hrel
          have ht' : t ≤ a.length := by omega
          have HJ := Lib.hid ht
          clear ht
          by_cases hlt2 : t < a.length
          · obtain ⟨b1, off1, A', c', rfl, hlw1, hc1, hr, hcap1⟩ := (hx1.keep hb2).at_ (i := t) hlt2
            have hlt3 : t < b.length := by rw [HPR.out.lb]; exact hlt2
            obtain ⟨b2, off2, B', d', rfl, hlw2, hc2, hs, hcap2⟩ := (hy1.keep hb2).at_ (i := t) hlt3
            have hm : (n - k) % n < n := Nat.mod_lt _ (by omega)
            obtain ⟨ea, fa⟩ := HPR.out.ra t hlt2
            obtain ⟨eb, fb⟩ := HPR.out.rb t hlt3
            have bx := fa k hlt
            have by' := fb _ hm
            obtain ⟨b3, off3, rfl, hlw3, hc3⟩ := hr.at2 (i := k) (by rw [ea]; exact hlt)
            obtain ⟨b4, off4, rfl, hlw4, hc4⟩ := hs.at2 (i := (n - k) % n) (by rw [eb]; exact hm)
            have HN := Lib.hid (show sumM (P : Int) (fun t => bat a t k * bat b t ((n - k) % n)) (t + 1) = (s + a[t].getD k 0 * b[t].getD ((n - k) % n) 0) % P by
              rw [HS2.out, ← bat_at hlt2, ← bat_at hlt3]; rfl)
            have o0 := blkI_at hO2 (j := k) (by rw [List.length_set, partL_len]; exact hlt)
            rw [getD_lt _ _ (by rw [List.length_set, partL_len]; exact hlt), List.getElem_set_self] at o0
            have of0 := hO2.frozen k
            have hgl := hO2.lt
            have hD1 : IntKind.i64.wrap ((n : Int) - (k : Int)) = ((n - k : Nat) : Int) := by rw [IntWalk.i64_in _ (by omega)]; omega
            generalize hla : a[t] = la at *
            generalize hlb : b[t] = lb at *
            clear hla hlb fa fb
            have hka : k < la.length := by rw [ea]; exact hlt
            have hmb : (n - k) % n < lb.length := by rw [eb]; exact hm
            obtain ⟨D, hD⟩ : ∃ D, D = n - k := ⟨_, rfl⟩
            have hDn : 1 ≤ D ∧ D ≤ n := by omega
            rw [← hD] at hD1 HN hc4 hm by' hmb HS2
            generalize hM : D % n = m at *
            have hM2 : (D : Int) % (n : Int) = (m : Int) := by rw [← Int.natCast_emod, hM]
            have HME := Lib.hid (show (n - k) % n = m by rw [← hD]; exact hM)
            clear hM ea eb
            have HD := Lib.hid hD
            clear hD
            generalize la.getD k 0 = X at *
            generalize lb.getD m 0 = Y at *
            have fm := fit_mul (s := s) hP2 bx by'
            obtain ⟨Z, hZ⟩ : ∃ Z, Z = X * Y := ⟨_, rfl⟩
            have hw2 : IntKind.i64.wrap (X * Y) = Z := by rw [IntWalk.i64_in _ (by omega), hZ]
            rw [← hZ] at HN fm
            clear hZ
            have hpos : 0 < (P : Int) := by omega
            have r1 := Int.emod_nonneg (s + Z) (show (P : Int) ≠ 0 by omega)
            have r2 := Int.emod_lt_of_pos (s + Z) hpos
            have HI := Lib.hid (blkI_set hO2 (by rw [List.length_set, partL_len]; exact hlt) ((s + Z) % P))
            have hzn : ((n : Int) == 0) = false := by rw [beq_eq_false_iff_ne]; omega
            have hzp : ((P : Int) == 0) = false := by rw [beq_eq_false_iff_ne]; omega
            go_wp2
            go_region
            all_goals go_wp2
            all_goals
              go_roundg (gk - 1)
              case rel => exact ⟨t + 1, (s + Z) % P, by have := HJ.out; omega, by go_num, r1, r2, Lib.hid (by rw [HME.out]; exact HN.out.symm), by have h := HI.out; rw [List.set_set] at h; exact h, (hb2.setCell (p := ⟨w1.heap.size, k, none⟩) (Nat.le_refl _) _).drew⟩
              case measure => have := HJ.out; omega
          · have hfin : s = powF P a b n k := by rw [HS2.out, HF.out, show t = a.length by omega]
            rw [partL_set _ _ _ _ _ hfin] at hO2
            clear hfin
            go_wp2
            go_roundg (gu - 1)
            case rel => exact ⟨k + 1, by have := HK.out; have := HGU.out; omega, by go_num, hO2, hb2⟩
            case measure => have := HK.out; have := HGU.out; omega
      · rw [partL_end _ _ _ _ (by omega)] at hO
        go_wp2
        go_ret2
        exact RetFE.own HS.out (fullL_len _ _) (blk_RI hO) (bstep hb1 hb)
  · have c0 : (twoE p a b != 0) = true := by rw [bne_iff_ne]; exact h0
    have HS : Hid (powS p a b = ([], twoE p a b)) := Lib.hid (by unfold powS; rw [if_pos h0])
    clear h0
    go_enter Try.func15, Try.ntmps15
    go_wp2_with fail
    refine (HC.out _ hx hy).mono ?_
    rintro _ w1 ⟨rfl, hb1⟩
    have hx1 := hx.keep hb1
    have hy1 := hy.keep hb1
    go_wp2
    go_ret2
    exact RetFE.no HS.out hb1
end Bk
end Go.Proofs.Ytnhjeelcgfobnaa
