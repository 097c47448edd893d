/-
  Layer 12 (bank), contracts: rows at fitting lists; the reference's Split.
-/
import Derived.Test.YtnhjeelcgfobnaaBkP
namespace Go.Proofs.Ytnhjeelcgfobnaa
open Go.RowKit Num
set_option maxRecDepth 8000
set_option linter.unusedVariables false
set_option linter.unusedSimpArgs false
namespace Bk
open Lol Crs

/-- A new row of n numbers, and no error. -/
def RetF (w : World) (n : Nat) (l : List Int) (e : Ending) (w' : World) : Prop :=
  ∃ A c, e = .returned (.tuple #[.slice A n c, .int .i64 0]) ∧ RIo .i64 w.heap.size w' A l ∧ n ≤ c ∧ Below w.heap.size w w'
theorem RetN.f {w : World} {n : Nat} {l : List Int} {e : Ending} {w' : World} (h : RetN w (l, 0) e w') (hn : l.length = n) : RetF w n l e w' := by
  obtain ⟨A, c, he, h1, h2, h3⟩ := h
  subst hn
  exact ⟨A, c, he, h1, h2, h3⟩
theorem refFwd_fit {P n : Nat} (h : Ok P n) (X : Nat → Int) (A : Option Addr) (c : Nat) (w : World) (hx : RI .i64 w A (resL P n X)) :
    Calls Try.prog 46 #[.int .i64 (P : Int), .slice A n c] w (RetF w n (fwdL P (resL P n X))) := by
  have h1 := refFwdN_any (P : Int) A c (resL P n X) w hx (by rw [resL_len]; have := h.l64; omega) (by omega) (by have := h.le; omega)
  have e : fwdS (P : Int) (resL P n X) = (fwdL P (resL P n X), 0) := by unfold fwdS; rw [if_pos (chkL_ok (fit_res h X))]; rfl
  rw [e, resL_len] at h1
  exact h1.mono fun _ _ h2 => RetN.f h2 (by rw [fwdL_len, resL_len])
theorem fwd_fit {P n : Nat} (h : Ok P n) (X : Nat → Int) (A : Option Addr) (c : Nat) (w : World) (hx : RI .i64 w A (resL P n X)) :
    Calls Try.prog 44 #[.int .i64 (P : Int), .slice A n c] w (RetF w n (fwdL P (resL P n X))) := by
  have h1 := fwdN_any (P : Int) A c (resL P n X) w hx (by rw [resL_len]; have := h.l64; omega) (by omega) (by have := h.le; omega)
  have e : fwdS (P : Int) (resL P n X) = (fwdL P (resL P n X), 0) := by unfold fwdS; rw [if_pos (chkL_ok (fit_res h X))]; rfl
  rw [e, resL_len] at h1
  exact h1.mono fun _ _ h2 => RetN.f h2 (by rw [fwdL_len, resL_len])
theorem str_lt {n M j : Nat} (h : 1 ≤ n) : j * n < M * n ↔ j < M := ⟨fun h1 => Nat.lt_of_mul_lt_mul_right h1, fun h1 => Nat.mul_lt_mul_of_pos_right h1 h⟩
theorem mul_lo {t M n k : Nat} (ht : t < M) (hk : k < n) : t * n + k < M * n := by
  have h1 : (t + 1) * n ≤ M * n := Nat.mul_le_mul_right n ht
  rw [Nat.succ_mul] at h1
  omega
set_option maxHeartbeats 4000000 in
theorem refSplit_any (p n : Int) (A : Option Addr) (c : Nat) (s : List Int) (w : World) (hp1 : -9223372036854775808 ≤ p) (hp2 : p ≤ 9223372036854775807) (hx : RI .i64 w A s) :
    Calls Try.prog 21 #[.int .i64 p, .int .i64 n, .slice A s.length c] w (RetLL .i64 w (splitS p n s)) := by
  have HSTR := Lib.hid (fun w hx => refStreams_any p n A c s w hp1 hp2 hx)
  by_cases h0 : strE p n s = 0
  · obtain ⟨P, N, rfl, rfl, hS⟩ := str_zero h0
    have h7 := hS.h7
    have hP2 := hS.le
    have hn1 := hS.n1
    have hn16 := hS.n16
    have hl := hS.len
    have hM := hS.mul
    have c0 : (strE (P : Int) (N : Int) s != 0) = false := by rw [h0]; rfl
    have HS := Lib.hid (split_ok hS)
    have HEL := Lib.hid hS.el
    have HOK := Lib.hid hS.ok
    have HSP := Lib.hid (show splitL P N s = fullL (spF P N s) (s.length / N) from rfl)
    obtain ⟨i0, hi0, hz0, hz1, hz2⟩ := info_int64
    obtain ⟨j0, hj0, jy0, jy1, jy2⟩ := info_parts info_ints64
    have hMl : s.length / N ≤ 256 := by have := Nat.div_le_self s.length N; omega
    generalize s.length / N = M at *
    have HLT := Lib.hid (fun t : Nat => show t * N < s.length ↔ t < M by rw [← hM]; exact str_lt hn1)
    have HML := Lib.hid (fun (t k : Nat) (ht : t < M) (hk : k < N) => show t * N + k < s.length by rw [← hM]; exact mul_lo ht hk)
    clear h0 hS hM
    go_enter Try.func21, Try.ntmps21
    go_wp2_with fail
    refine (HSTR.out _ hx).mono ?_
    rintro _ w1 ⟨rfl, hb1⟩
    have hx1 := hx.keep hb1
    go_wp2
    go_loopg [8, 9] M (fun gk v i wr => ∃ (t : Nat) (raws : List Value), t + gk = M ∧ i = .int .i64 ((t * N : Nat) : Int) ∧ wr.ownsRow w1.heap.size 31 1 v t raws ∧ Els .i64 w1.heap.size wr v.ownBlock raws (fullL (spF P N s) t) ∧ Below w1.heap.size w1 wr)
    case atStart => exact ⟨0, [], by omega, by simp, World.ownsRow_nil _ _ _ _, Els.nil, Below.refl _ _⟩
    case round =>
      obtain ⟨t, raws, ht, rfl, hO, hE, hb⟩ := hrel
      have ht' : t ≤ M := by omega
      have HK := Lib.hid ht
      clear ht
      have hsz := hb.size
      obtain ⟨As, cs, rfl, hcs⟩ := own_shape' hO
      by_cases hlt : t < M
      · have hin := (HLT.out t).2 hlt
        have HNX := Lib.hid (Nat.succ_mul t N)
        have HGS := Lib.hid (fullL_succ (spF P N s) t)
        have HFI := Lib.hid (fun k hk => HML.out t k hlt hk)
        have HSX : Hid (∀ k, smp N s t k = s.getD (t * N + k) 0) := Lib.hid (fun k => rfl)
        have HSR := Lib.hid (show spF P N s t = fwdL P (resL P N (smp N s t)) from rfl)
        generalize smp N s t = X at *
        have HRF : Hid (resL P N X = fullL (fun k => X k % (P : Int)) N) := Lib.hid rfl
        have HFW := Lib.hid (fun A c w hx => refFwd_fit HOK.out X A c w hx)
        obtain ⟨lo, hlo⟩ : ∃ lo, lo = t * N := ⟨_, rfl⟩
        have HLO := Lib.hid hlo
        rw [← hlo] at hin HSX HFI ⊢
        clear hlo
        have hlo2 : lo ≤ 256 := by omega
        obtain ⟨wo, rfl⟩ : ∃ wo : World, wo = wr := ⟨_, rfl⟩
        obtain ⟨gu, rfl⟩ : ∃ gu : Nat, gu = gk := ⟨_, rfl⟩
        go_wp2
        go_loopg [10, 11] N (fun gk v i wr => ∃ k : Nat, k + gk = N ∧ i = .int .i64 k ∧ wr.ownsRow wo.heap.size 2 1 v k ((fullL (fun k => X k % (P : Int)) k).flatMap (encI .i64)) ∧ Below wo.heap.size wo wr)
        case atStart => exact ⟨0, by omega, rfl, World.ownsRow_nil _ _ _ _, Below.refl _ _⟩
        case round =>
          obtain ⟨k, hk, rfl, hR, hb2⟩ := hrel
          have hk' : k ≤ N := by omega
          have HKK := Lib.hid hk
          clear hk
          obtain ⟨A8, c8, rfl, hc8⟩ := own_shape' hR
          have hB2 := bstep hb hb2
          have hsz2 := hb2.size
          by_cases hlk : k < N
          · have hjl := HFI.out k hlk
            have bx := HEL.out _ hjl
            obtain ⟨b3, off3, rfl, hlw3, hc3⟩ := hx1.at2 hjl
            have hc4 := (hB2.cell (p := ⟨b3, off3 + (lo + k), none⟩) hlw3).trans hc3
            have HXK := Lib.hid (HSX.out k)
            generalize s.getD (lo + k) 0 = x at *
            obtain ⟨Z, hZ⟩ : ∃ Z, Z = x + (P : Int) := ⟨_, rfl⟩
            have hw2 : IntKind.i64.wrap (x + (P : Int)) = Z := by rw [IntWalk.i64_in _ (by omega), hZ]
            have hZ0 : 0 ≤ Z := by omega
            have HN2 := Lib.hid (show Z.tmod (P : Int) = X k % (P : Int) by rw [Int.tmod_eq_emod_of_nonneg hZ0, hZ, HXK.out, Int.add_emod_right])
            have HN3 := Lib.hid (show Z % (P : Int) = X k % (P : Int) by rw [hZ, HXK.out, Int.add_emod_right])
            clear hZ
            have hzP : ((P : Int) == 0) = false := by rw [beq_eq_false_iff_ne]; omega
            go_wp2_with (at_builtin; refine wpList_append_lies _ rfl (.tmp 35) (.tmp 46) 31 rfl wo.heap.size 2 i0 _ 1 8 Try.underlying31 hi0 hz0 hz1 hz2 rfl (by decide) _ k _ rfl (hR.alloc _) ⟨wr.heap.size, 0, none⟩ 1 1 (encI .i64 (Z % (P : Int))) rfl rfl (encI_news _ _ _ _) (encI_one _ _) (by omega) (by unfold maxLen; omega) (by omega) (by simp; omega) (wr.heap.size + 1) (by simp) ?_; intro g4 c4 w4 hown4 hgrow4 hat4 hlt4)
            have hB4 := own_below (balloc hb2 (.cells #[.int .i64 (Z % (P : Int))] 2)) (hR.alloc _) hgrow4 (Nat.le_refl _) (by simp; omega)
            go_roundg (gk - 1)
            case rel => exact ⟨k + 1, by have := HKK.out; omega, by go_num, by rw [fullL_succ, flat_snoc, ← HN3.out]; exact hown4, hB4⟩
            case measure => have := HKK.out; omega
          · have ek : k = N := by omega
            subst ek
            have r2 := own_RI_at (fullL_len (fun k => X k % (P : Int)) k) hR
            rw [← HRF.out] at r2
            go_wp2_with fail
            refine (HFW.out A8 c8 _ r2).mono ?_
            rintro _ w5 ⟨A5, c5, rfl, r5, hcp5, hb5⟩
            rw [← HSR.out] at r5
            have hb25 := bstep hb2 hb5
            have hB5 := bstep hb hb25
            have hs5 := hb25.size
            have HFL := Lib.hid (spF_len P k s t)
            go_wp2_with (at_builtin; refine wpList_append_lies _ rfl (.tmp 54) (.tmp 56) 22 rfl w1.heap.size 31 j0 _ 1 24 Try.underlying22 hj0 jy0 jy1 jy2 rfl (by decide) _ t _ rfl (World.ownsRow.alloc (own_keep hO hb25) _) ⟨w5.heap.size, 0, none⟩ 1 1 [.slice A5 k c5] rfl rfl (enc_news _ rfl) one_slice (by omega) (by unfold maxLen; omega) (by omega) (by simp; omega) (w5.heap.size + 1) (by simp) ?_; intro g4 c4 w4 hown4 hgrow4 hat4 hlt4)
            have hB4 := own_below (balloc (bstep hb hb25) (.cells #[.slice A5 k c5] 31)) ((own_keep hO hb25).alloc _) hgrow4 (Nat.le_refl _) (by simp; omega)
            have r6 := r5.mono hb2.size
            have hne := r6.apart hO (Nat.le_refl _)
            have hE4 := ((hE.keep hb25).keep (balloc (Below.refl _ _) (.cells #[.slice A5 k c5] 31))).push (c := c5) ((r6.mono hsz).keep (balloc (Below.refl _ _) (.cells #[.slice A5 k c5] 31))) (by rw [HFL.out]; exact hcp5) hne hgrow4 hat4 (by simp)
            rw [HFL.out, ← HGS.out] at hE4
            go_roundg (gu - 1)
            case rel => exact ⟨t + 1, _, by have := HK.out; omega, by rw [HNX.out, ← HLO.out]; go_num, hown4, hE4, hB4⟩
            case measure => have := HK.out; omega
      · obtain rfl : t = M := by omega
        have hin : ¬ t * N < s.length := fun h => hlt ((HLT.out t).1 h)
        have hR := own_RLL hO hE
        rw [← HSP.out] at hR
        have HSL := Lib.hid (show (splitL P N s).length = t by rw [HSP.out, fullL_len])
        obtain ⟨lo, hlo⟩ : ∃ lo, lo = t * N := ⟨_, rfl⟩
        rw [← hlo] at hin ⊢
        clear hlo
        go_wp2
        go_ret2
        exact RetLL.own HS.out HSL.out hR (bstep hb1 hb)
  · have c0 : (strE p n s != 0) = true := by rw [bne_iff_ne]; exact h0
    have HS : Hid (splitS p n s = ([], strE p n s)) := Lib.hid (by unfold splitS; rw [if_pos h0])
    clear h0
    go_enter Try.func21, Try.ntmps21
    go_wp2_with fail
    refine (HSTR.out _ hx).mono ?_
    rintro _ w1 ⟨rfl, hb1⟩
    have hx1 := hx.keep hb1
    go_wp2_with fail
    refine (HSTR.out _ hx1).mono ?_
    rintro _ w2 ⟨rfl, hb2⟩
    go_wp2
    go_ret2
    exact RetLL.no HS.out (bstep hb1 hb2)
end Bk
end Go.Proofs.Ytnhjeelcgfobnaa
