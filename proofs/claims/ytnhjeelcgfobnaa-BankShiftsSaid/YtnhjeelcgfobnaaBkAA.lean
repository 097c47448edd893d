/-
  Layer 12 (bank): the walk of BankShifts.
-/
import Derived.Test.YtnhjeelcgfobnaaBkZ
namespace Go.Proofs.Ytnhjeelcgfobnaa
open Go.RowKit Num
set_option maxRecDepth 8000
set_option linter.unusedVariables false
set_option linter.unusedSimpArgs false
namespace Bk
open Lol Crs

theorem trn_read {P n : Nat} {s : List Int} (h : Strm P n s) {d : Int} {t k : Nat} (ht : t < s.length / n) (hk : k < n) : (trn n (rotD d n) s).getD (t * n + (k + rotD d n) % n) 0 = s.getD (t * n + k) 0 := by
  have hD := rotD_lt d h.n1
  rw [trn_at ht (Nat.mod_lt _ h.n1), (backI_iff hD (Nat.mod_lt _ h.n1) hk).2 rfl]
  rfl
theorem rot_walk {d : Int} {n k : Nat} (h : 1 ≤ n) : (((k : Int) + d).tmod (n : Int) + (n : Int)).tmod (n : Int) = (((k + rotD d n) % n : Nat) : Int) := by
  have h1 := tmod_cases ((k : Int) + d) h
  have h2 := emod_bd ((k : Int) + d) h
  have e1 := rotD_cast d h
  have e2 : ((k : Int) + d) % (n : Int) = (((k + rotD d n) % n : Nat) : Int) := by
    rw [Int.natCast_emod, Int.natCast_add, ← e1, Int.add_emod_emod]
  rcases h1 with ⟨h3, h4⟩ | ⟨h3, h4⟩
  · rw [Int.tmod_eq_emod_of_nonneg (by omega), Int.add_emod_right, h4, Int.emod_emod_of_dvd _ (Int.dvd_refl _), e2]
  · rw [Int.tmod_eq_emod_of_nonneg (by omega), Int.emod_eq_of_lt (by omega) (by omega), h4, e2]
set_option maxRecDepth 20000 in
set_option maxHeartbeats 4000000 in
theorem bankShifts_walk (p n : Int) (S : Option Addr) (cs : Nat) (s : List Int) (d : Int) (w : World)
    (hp : -9223372036854775808 ≤ p ∧ p ≤ 9223372036854775807) (_ : -9223372036854775808 ≤ n ∧ n ≤ 9223372036854775807)
    (hs : RI .i64 w S s) (hls : s.length ≤ 9223372036854775807) (_ : ∀ x ∈ s, (Lit.int .i64 x).wf = true) (hcap : s.length ≤ cs) (hd0 : -9223372036854775808 ≤ d ∧ d ≤ 9223372036854775807) :
    Calls Try.prog 6 #[.int .i64 p, .int .i64 n, .slice S s.length cs, .int .i64 d] w fun e w' => e = .returned (.bool true) ∧ Below w.heap.size w w' := by
  have HF := Lib.hid (fun w hs => fit12_any p n S cs s w hp.1 hp.2 hs)
  cases hf : fitB p n s
  · rw [hf] at HF
    go_enter Try.func6, Try.ntmps6
    go_wp2_with fail
    refine (HF.out _ hs).mono ?_
    rintro _ w1 ⟨rfl, hb1⟩
    go_wp2_with fail
    refine (alive12 _).mono ?_
    rintro _ w2 ⟨rfl, hb2⟩
    go_wp2
    go_ret
    exact ⟨rfl, bstep hb1 hb2⟩
  · rw [hf] at HF
    obtain ⟨h128, P, N, rfl, rfl, hS⟩ := fit_yes hf
    clear hf
    rcases (show d < -1000000 ∨ (-1000000 ≤ d ∧ 1000000 < d) ∨ (-1000000 ≤ d ∧ d ≤ 1000000) by omega) with hd | ⟨hd, hd'⟩ | ⟨hd, hd'⟩
    · have e1 : decide (d < -1000000) = true := decide_eq_true hd
      go_enter Try.func6, Try.ntmps6
      go_wp2_with fail
      refine (HF.out _ hs).mono ?_
      rintro _ w1 ⟨rfl, hb1⟩
      go_wp2_with fail
      refine (alive12 _).mono ?_
      rintro _ w2 ⟨rfl, hb2⟩
      go_wp2
      go_ret
      exact ⟨rfl, bstep hb1 hb2⟩
    · have e1 : decide (d < -1000000) = false := decide_eq_false (by omega)
      have e2 : decide (1000000 < d) = true := decide_eq_true hd'
      go_enter Try.func6, Try.ntmps6
      go_wp2_with fail
      refine (HF.out _ hs).mono ?_
      rintro _ w1 ⟨rfl, hb1⟩
      go_wp2_with fail
      refine (alive12 _).mono ?_
      rintro _ w2 ⟨rfl, hb2⟩
      go_wp2
      go_ret
      exact ⟨rfl, bstep hb1 hb2⟩
    · have e1 : decide (d < -1000000) = false := decide_eq_false (by omega)
      have e2 : decide (1000000 < d) = false := decide_eq_false (by omega)
      have hn1 := hS.n1
      have hn16 := hS.n16
      have hMN := hS.mul
      have hl1 := splitL_len P N s
      have hT := trn_strm (rotD d N) hS
      have hTl := trn_len (rotD d N) hS
      have hl2 : (splitL P N (trn N (rotD d N) s)).length = s.length / N := by rw [splitL_len, hTl]
      have SB := small_bank (bank_split hS)
      have HS := Lib.hid (split_w P N s (splitL P N s) 0 s.length (s.length / N) (split_ok hS) rfl hl1 hp.1 hp.2 (by omega))
      have HH := Lib.hid (shift_w P (splitL P N s) d (splitL P N (trn N (rotD d N) s)) 0 (s.length / N) (s.length / N) (shift_split hS d) hl1 hl2 hp.1 hp.2 hd0)
      have HM := Lib.hid (merge_w P (splitL P N (trn N (rotD d N) s)) (trn N (rotD d N) s) 0 (s.length / N) s.length (merge_split hT) hl2 hTl hp.1 hp.2)
      have HB0 : shiftS (P : Int) (splitL P N (trn N (rotD d N) s)) (-d) = (splitL P N s, 0) := by rw [shift_split hT (-d), trn_back hS d]
      have HB := Lib.hid (shift_w P (splitL P N (trn N (rotD d N) s)) (-d) (splitL P N s) 0 (s.length / N) (s.length / N) HB0 hl2 hl1 hp.1 hp.2 (by omega))
      have HSA := Lib.hid (same12_w (splitL P N s) (s.length / N) hl1 SB)
      have HRD := Lib.hid (fun t k (ht : t < s.length / N) (hk : k < N) => trn_read (d := d) hS ht hk)
      have HRW := Lib.hid (fun k => rot_walk (d := d) (k := k) hn1)
      have hng : IntKind.i64.wrap (-d) = -d := by rw [IntWalk.i64_in _ (by omega)]
      have hz1 : ((N : Int) == 0) = false := by rw [beq_eq_false_iff_ne]; omega
      have hz2 : ¬ ((N : Int) = 0) := by omega
      have hz3 : ¬ (N = 0) := by omega
      have hM256 : s.length / N ≤ 256 := by have := Nat.div_le_self s.length N; omega
      clear hS hT HB0
      generalize splitL P N s = L at *
      generalize splitL P N (trn N (rotD d N) s) = L2 at *
      generalize trn N (rotD d N) s = T at *
      generalize s.length / N = M at *
      have HLT := Lib.hid (fun t : Nat => show t * N < s.length ↔ t < M by rw [← hMN]; exact str_lt hn1)
      have HML := Lib.hid (fun (t k : Nat) (ht : t < M) (hk : k < N) => show t * N + k < s.length by rw [← hMN]; exact mul_lo ht hk)
      have HTL := Lib.hid hTl
      clear hMN hTl
      go_enter Try.func6, Try.ntmps6
      go_wp2_with fail
      refine (HF.out _ hs).mono ?_
      rintro _ w1 ⟨rfl, hb1⟩
      go_wp2_with fail
      refine (HS.out _ _ hcap _ (hs.keep hb1)).mono ?_
      rintro _ w2 ⟨A2, c2, rfl, r2, hb2⟩
      have hB2 := bstep hb1 hb2
      clear hb1 hb2
      go_wp2_with fail
      refine (HH.out _ _ _ r2).mono ?_
      rintro _ w3 ⟨A3, c3, rfl, r3, hb3⟩
      have hB3 := bstep hB2 hb3
      replace r2 := r2.keep hb3
      clear hb3 hB2
      go_wp2_with fail
      refine (HM.out _ _ _ r3).mono ?_
      rintro _ w4 ⟨A4, c4, rfl, r4, hc4, hb4⟩
      have hB4 := bstep hB3 hb4
      replace r2 := r2.keep hb4
      replace r3 := r3.keep hb4
      clear hb4 hB3
      go_wp2_with fail
      refine (HB.out _ _ _ r3).mono ?_
      rintro _ w5 ⟨A5, c5, rfl, r5, hb5⟩
      have hB5 := bstep hB4 hb5
      replace r2 := r2.keep hb5
      replace r4 := r4.keep hb5
      clear hb5 hB4
      go_wp2_with fail
      refine (HSA.out _ _ _ _ _ r5 r2).mono ?_
      rintro _ _ ⟨rfl, q3, rfl⟩
      go_wp2
      have hB6 : Below w.heap.size w (World.drewN w5 q3) := below_drewN hB5 _
      have r6 : RI .i64 (World.drewN w5 q3) A4 T := r4.keep (below_drewN (Below.refl _ _) _)
      have s6 : RI .i64 (World.drewN w5 q3) S s := hs.keep hB6
      clear r2 r3 r4 r5 hB5
      generalize World.drewN w5 q3 = w6 at *
      go_loopg [17] M (fun gk i wr => ∃ (t q : Nat), t + gk = M ∧ i = .int .i64 ((t * N : Nat) : Int) ∧ wr = w6.drewN q)
      case atStart => exact ⟨0, 0, by omega, by simp, rfl⟩
      case round =>
        obtain ⟨t, q, ht, rfl, rfl⟩ := hrel
        have ht' : t ≤ M := by omega
        have HK := Lib.hid ht
        clear ht
        by_cases hlt : t < M
        · have hin := (HLT.out t).2 hlt
          have HNX := Lib.hid (Nat.succ_mul t N)
          have HFI := Lib.hid (fun k hk => HML.out t k hlt hk)
          have HR2 := Lib.hid (fun k hk => HRD.out t k hlt hk)
          obtain ⟨lo, hlo⟩ : ∃ lo, lo = t * N := ⟨_, rfl⟩
          have HLO := Lib.hid hlo
          rw [← hlo] at hin HFI HR2 ⊢
          clear hlo
          have hlo2 : lo ≤ 256 := by omega
          obtain ⟨gu, rfl⟩ : ∃ gu : Nat, gu = gk := ⟨_, rfl⟩
          go_wp2
          go_loopg [18] N (fun gk i wr => ∃ (k q : Nat), k + gk = N ∧ i = .int .i64 k ∧ wr = w6.drewN q)
          case atStart => exact ⟨0, q, by omega, rfl, rfl⟩
          case round =>
            obtain ⟨k, q', hk, rfl, rfl⟩ := hrel
            have hk' : k ≤ N := by omega
            have HKK := Lib.hid hk
            clear hk
            by_cases hlk : k < N
            · have hj1 := HFI.out k hlk
              have hm : (k + rotD d N) % N < N := Nat.mod_lt _ (by omega)
              have hj2 := HFI.out _ hm
              obtain ⟨b1, off1, rfl, hlw1, hc1⟩ := s6.at2 hj1
              obtain ⟨b2, off2, rfl, hlw2, hc2⟩ := r6.at2 (i := lo + (k + rotD d N) % N) (by rw [HTL.out]; exact hj2)
              rw [HR2.out k hlk] at hc2
              have hrw := HRW.out k
              generalize (k + rotD d N) % N = m at *
              generalize s.getD (lo + k) 0 = x at *
              obtain ⟨Z, hZ⟩ : ∃ Z, Z = (k : Int) + d := ⟨_, rfl⟩
              have hw1 : IntKind.i64.wrap ((k : Int) + d) = Z := by rw [IntWalk.i64_in _ (by omega), hZ]
              rw [← hZ] at hrw
              have hbd := tmod_bd Z hn1
              obtain ⟨Y, hY⟩ : ∃ Y, Y = Z.tmod (N : Int) := ⟨_, rfl⟩
              rw [← hY] at hrw hbd
              obtain ⟨X, hX⟩ : ∃ X, X = Y + (N : Int) := ⟨_, rfl⟩
              have hw2 : IntKind.i64.wrap (Y + (N : Int)) = X := by rw [IntWalk.i64_in _ (by omega), hX]
              rw [← hX] at hrw
              have hY2 : Z.tmod (N : Int) = Y := hY.symm
              clear hX hZ hY
              go_wp2
              go_quiet (fail)
              go_wp2
              go_roundg (gk - 1)
              case rel => exact ⟨k + 1, _, by have := HKK.out; omega, by go_num, rfl⟩
              case measure => have := HKK.out; omega
            · go_wp2
              go_roundg (gu - 1)
              case rel => exact ⟨t + 1, _, by have := HK.out; omega, by rw [HNX.out, ← HLO.out]; go_num, rfl⟩
              case measure => have := HK.out; omega
        · have hin : ¬ t * N < s.length := fun h => hlt ((HLT.out t).1 h)
          obtain ⟨lo, hlo⟩ : ∃ lo, lo = t * N := ⟨_, rfl⟩
          rw [← hlo] at hin ⊢
          clear hlo
          go_wp2_with fail
          refine (alive12 _).mono ?_
          rintro _ w7 ⟨rfl, hb7⟩
          go_wp2
          go_ret
          exact ⟨rfl, bstep (below_drewN hB6 _) hb7⟩
end Bk
end Go.Proofs.Ytnhjeelcgfobnaa
