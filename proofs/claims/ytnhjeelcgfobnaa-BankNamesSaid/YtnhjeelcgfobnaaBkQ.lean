/-
  Layer 12 (bank): the walk of BankWorks.
-/
import Derived.Test.YtnhjeelcgfobnaaBkO
namespace Go.Proofs.Ytnhjeelcgfobnaa
open Go.RowKit Num
set_option maxRecDepth 8000
set_option linter.unusedVariables false
set_option linter.unusedSimpArgs false
namespace Bk
open Lol Crs

theorem small_nil : Small [] := ⟨by simp, by simp⟩
theorem small_full {F : Nat → List Int} {n N : Nat} (hN : N ≤ 256) (hn : n ≤ 64) (h : ∀ t, t < N → (F t).length = n) : Small (fullL F N) := by
  refine ⟨by rw [fullL_len]; omega, fun l hl => ?_⟩
  obtain ⟨i, hi, rfl⟩ := List.mem_map.1 hl
  rw [h i (by simpa using hi)]
  omega
theorem add_small (p : Int) (a b : List (List Int)) : Small (addS p a b).1 := by
  unfold addS
  split
  · exact small_nil
  · rename_i h
    simp only [ne_eq, Decidable.not_not] at h
    obtain ⟨P, rfl, h7, h2, hP, hA, hB, hl, hw⟩ := two_zero h
    exact small_full hA.len (by have := hA.wid16; omega) (fun t _ => fullL_len _ _)
theorem keep_small (p : Int) (b : List (List Int)) (kp : List Bool) : Small (keepS p b kp).1 := by
  unfold keepS
  split
  · exact small_nil
  · rename_i h
    simp only [ne_eq, Decidable.not_not] at h
    obtain ⟨P, rfl, h7, h2, hP, hB⟩ := both_zero h
    split
    · exact small_nil
    · exact small_full hB.len (by have := hB.wid16; omega) (fun t _ => fullL_len _ _)
theorem shift_small (p : Int) (b : List (List Int)) (d : Int) : Small (shiftS p b d).1 := by
  unfold shiftS
  split
  · exact small_nil
  · rename_i h
    simp only [ne_eq, Decidable.not_not] at h
    obtain ⟨P, rfl, h7, h2, hP, hB⟩ := both_zero h
    refine small_full (n := wid b) hB.len (by have := hB.wid16; omega) (fun t ht => ?_)
    rw [shiftR_len ht (hB.fit hP h2 ht), (hB.row t ht).1]
theorem pow_small (p : Int) (a b : List (List Int)) : (powS p a b).1.length ≤ 300 := by
  unfold powS
  split
  · simp
  · rename_i h
    simp only [ne_eq, Decidable.not_not] at h
    obtain ⟨P, rfl, h7, h2, hP, hA, hB, hl, hw⟩ := two_zero h
    show (fullL (powF P a b (wid a)) (wid a)).length ≤ 300
    rw [fullL_len]
    have := hA.wid16
    omega
theorem split_smallS (p n : Int) (s : List Int) : Small (splitS p n s).1 := by
  unfold splitS
  split
  · exact small_nil
  · rename_i h
    simp only [ne_eq, Decidable.not_not] at h
    obtain ⟨P, N, rfl, rfl, hS⟩ := str_zero h
    show Small (splitL P N s)
    exact small_full (n := N) (by have := hS.len; have := Nat.div_le_self s.length N; omega) (by have := hS.n16; omega) (fun t _ => spF_len _ _ _ _)
theorem merge_small (p : Int) (b : List (List Int)) : (mergeS p b).1.length ≤ 300 := by
  unfold mergeS
  split
  · simp
  · rename_i h
    simp only [ne_eq, Decidable.not_not] at h
    obtain ⟨P, rfl, h7, h2, hP, hB⟩ := both_zero h
    split
    · simp
    · rename_i hq
      split
      · simp
      · show (mrgL P b).length ≤ 300
        have := mrg_take_len (P := P) (fun t ht => (hB.row t ht).1) b.length (Nat.le_refl _)
        rw [List.take_length] at this
        omega
set_option maxRecDepth 20000 in
set_option maxHeartbeats 4000000 in
theorem bankWorks_walk (p : Int) (A : Option Addr) (c : Nat) (a : List (List Int)) (B : Option Addr) (d : Nat) (b : List (List Int)) (s : Int) (w : World)
    (hp : -9223372036854775808 ≤ p ∧ p ≤ 9223372036854775807) (hx : RLL .i64 w A a) (_ : a.length ≤ 9223372036854775807) (hy : RLL .i64 w B b) (_ : b.length ≤ 9223372036854775807) (hs : -9223372036854775808 ≤ s ∧ s ≤ 9223372036854775807) :
    Calls Try.prog 3 #[.int .i64 p, .slice A a.length c, .slice B b.length d, .int .i64 s] w fun e w' => e = .returned (.bool true) ∧ Below w.heap.size w w' := by
  have HG1 := Lib.hid (fun w hx => great_any A c a w hx)
  have HG2 := Lib.hid (fun w hy => great_any B d b w hy)
  cases hg1 : greatB a
  · rw [hg1] at HG1
    cases hg2 : greatB b
    · rw [hg2] at HG2
      have HA1 := Lib.hid (fun w hx hy => (add_any p A c a B d b w hp.1 hp.2 hx hy).mono (fun _ _ h => h.ll))
      have HA2 := Lib.hid (fun w hx hy => refAdd_any p A c a B d b w hp.1 hp.2 hx hy)
      have HS1 := Lib.hid (fun w hx => shift_any p A c a s w hp.1 hp.2 hs hx)
      have HS2 := Lib.hid (fun w hx => refShift_any p A c a s w hp.1 hp.2 hs hx)
      have HP1 := Lib.hid (fun w hx hy => power_any p A c a B d b w hp.1 hp.2 hx hy)
      have HP2 := Lib.hid (fun w hx hy => refPower_any p A c a B d b w hp.1 hp.2 hx hy)
      have L1 := add_small p a b
      have L2 := shift_small p a s
      have L3 := pow_small p a b
      clear hg1 hg2
      generalize addS p a b = R1 at *
      generalize shiftS p a s = R2 at *
      generalize powS p a b = R3 at *
      go_enter Try.func3, Try.ntmps3
      go_wp2_with fail
      refine (HG1.out _ hx).mono ?_
      rintro _ _ ⟨rfl, rfl⟩
      go_wp2_with fail
      refine (HG2.out _ hy).mono ?_
      rintro _ _ ⟨rfl, rfl⟩
      go_wp2_with fail
      refine (HA1.out _ hx hy).mono ?_
      rintro _ w1 ⟨A1, k1, rfl, r1, hb1⟩
      have hB1 := hb1
      go_wp2_with fail
      refine (HA2.out _ (hx.keep hB1) (hy.keep hB1)).mono ?_
      rintro _ w2 ⟨A2, k2, rfl, r2, hb2⟩
      have hB2 := bstep hB1 hb2
      replace r1 := r1.keep hb2
      clear hb2 hB1 hb1
      go_wp2_with fail
      refine (HS1.out _ (hx.keep hB2)).mono ?_
      rintro _ w3 ⟨A3, k3, rfl, r3, hb3⟩
      have hB3 := bstep hB2 hb3
      replace r1 := r1.keep hb3
      replace r2 := r2.keep hb3
      clear hb3 hB2
      go_wp2_with fail
      refine (HS2.out _ (hx.keep hB3)).mono ?_
      rintro _ w4 ⟨A4, k4, rfl, r4, hb4⟩
      have hB4 := bstep hB3 hb4
      replace r1 := r1.keep hb4
      replace r2 := r2.keep hb4
      replace r3 := r3.keep hb4
      clear hb4 hB3
      go_wp2_with fail
      refine (HP1.out _ (hx.keep hB4) (hy.keep hB4)).mono ?_
      rintro _ w5 ⟨A5, k5, rfl, r5, hb5⟩
      have hB5 := bstep hB4 hb5
      replace r1 := r1.keep hb5
      replace r2 := r2.keep hb5
      replace r3 := r3.keep hb5
      replace r4 := r4.keep hb5
      clear hb5 hB4
      go_wp2_with fail
      refine (HP2.out _ (hx.keep hB5) (hy.keep hB5)).mono ?_
      rintro _ w6 ⟨A6, k6, rfl, r6, hb6⟩
      have hB6 := bstep hB5 hb6
      replace r1 := r1.keep hb6
      replace r2 := r2.keep hb6
      replace r3 := r3.keep hb6
      replace r4 := r4.keep hb6
      replace r5 := r5.keep hb6
      clear hb6 hB5
      go_wp2_with fail
      refine (same12_any _ _ _ _ _ _ _ r1 r2 L1 L1).mono ?_
      rintro _ _ ⟨rfl, q1, rfl⟩
      go_wp2_with fail
      refine (same12_any _ _ _ _ _ _ _ (r3.keep (below_drewN (Below.refl _ _) _)) (r4.keep (below_drewN (Below.refl _ _) _)) L2 L2).mono ?_
      rintro _ _ ⟨rfl, q2, rfl⟩
      go_wp2_with fail
      refine (same10_any _ _ _ _ _ _ _ (r5.keep (below_drewN (Below.refl _ _) _)) (r6.keep (below_drewN (Below.refl _ _) _)) (by omega) (by omega)).mono ?_
      rintro _ _ ⟨rfl, q3, rfl⟩
      go_wp2
      go_ret
      exact ⟨by simp, by first | exact below_drewN hB6 _ | exact below_drewN (below_drewN hB6 _) _⟩
    · rw [hg2] at HG2
      go_enter Try.func3, Try.ntmps3
      go_wp2_with fail
      refine (HG1.out _ hx).mono ?_
      rintro _ _ ⟨rfl, rfl⟩
      go_wp2_with fail
      refine (HG2.out _ hy).mono ?_
      rintro _ _ ⟨rfl, rfl⟩
      go_wp2
      go_ret
      exact ⟨rfl, Below.refl _ _⟩
  · rw [hg1] at HG1
    go_enter Try.func3, Try.ntmps3
    go_wp2_with fail
    refine (HG1.out _ hx).mono ?_
    rintro _ _ ⟨rfl, rfl⟩
    go_wp2
    go_ret
    exact ⟨rfl, Below.refl _ _⟩
end Bk
end Go.Proofs.Ytnhjeelcgfobnaa
