/-
  RingRoots.
-/
import Derived.Test.YtnngkghmhbcgeaaRingK
namespace Go.Proofs.Ytnngkghmhbcgeaa
open Go.RowKit Num
set_option linter.unusedVariables false

def pwL (P R : Nat) (i : Nat) : List Int := (List.range i).map (fun j => ((R ^ j % P : Nat) : Int))
theorem pwL_len (P R i : Nat) : (pwL P R i).length = i := by simp [pwL]
theorem pwL_snoc (P R i : Nat) : pwL P R (i + 1) = pwL P R i ++ [((R ^ i % P : Nat) : Int)] := by simp [pwL, List.range_succ]
theorem pwL_at (P R : Nat) {i k : Nat} (h : k < i) : (pwL P R i).getD k 0 = ((R ^ k % P : Nat) : Int) := by
  rw [getD_lt _ _ (by rw [pwL_len]; exact h)]; simp [pwL]
theorem root_facts {P N : Nat} (hP : Pr P) (h3 : P ≤ 2000000000) (hN : 1 ≤ N) (hd : (P - 1) % N = 0) :
    ∃ R : Nat, rootS (P : Int) (N : Int) = ((R : Int), 0) ∧ R < P ∧ ordS (P : Int) (R : Int) = ((N : Int), 0) ∧ R ^ N % P = 1 ∧ ∀ i j, i < j → j < N → R ^ i % P ≠ R ^ j % P := by
  have h2 := hP.1
  have hdv := Nat.dvd_of_mod_eq_zero hd
  have ho := rootN_ord hP hdv
  have hlt : rootN P N < P := Nat.mod_lt _ (by omega)
  have h0 : 0 < rootN P N := by
    rcases Nat.eq_zero_or_pos (rootN P N) with h | h
    · have := ho.one
      rw [h, Nat.zero_pow (by omega), Nat.zero_mod] at this
      omega
    · exact h
  have hpr := hP.not_dvd_lt h0 hlt
  refine ⟨rootN P N, root_val hP h3 hN hd rfl, hlt, ord_val hP h3 hlt h0 (ordN_eq hP hpr ho), ho.one, ?_⟩
  intro i j hij hjN he
  have h4 : rootN P N ^ (j - i) % P = 1 := by
    have e : rootN P N ^ j = rootN P N ^ i * rootN P N ^ (j - i) := by rw [← Nat.pow_add]; congr 1; omega
    have hd1 : P ∣ rootN P N ^ j - rootN P N ^ i := dvd_sub_of_mod he.symm
    have e2 : rootN P N ^ j - rootN P N ^ i = rootN P N ^ i * (rootN P N ^ (j - i) - 1) := by rw [e, Nat.mul_sub, Nat.mul_one]
    rw [e2] at hd1
    rcases hP.dvd_mul hd1 with h5 | h5
    · exact absurd (hP.dvd_pow h5) hpr
    · rw [mod_of_dvd_sub (Nat.pow_pos h0) h5, one_mod hP]
  have h6 := ho.dvd hP h4
  have := Nat.le_of_dvd (by omega) h6
  omega

set_option maxHeartbeats 2000000 in
theorem ringRoots_walk (p n : Int) (w : World) (hp : -9223372036854775808 ≤ p ∧ p ≤ 9223372036854775807) (hn : -9223372036854775808 ≤ n ∧ n ≤ 9223372036854775807) :
    Calls Try.prog 6 #[.int .i64 p, .int .i64 n] w fun e w' => e = .returned (.bool true) ∧ Below w.heap.size w w' := by
  rcases ok_cases p with ⟨e0, e1, P, rfl, h2, h3, hP⟩ | ⟨e0, e1⟩
  · have c0 : (chkE (P : Int) != 0) = false := by rw [e0]; rfl
    have HP := Lib.hid hP
    clear hP e1
    rcases (show n < 1 ∨ (1 ≤ n ∧ 200 < n) ∨ (1 ≤ n ∧ n ≤ 200) by omega) with h | ⟨h, h'⟩ | ⟨h, h'⟩
    · go_enter Try.func6, Try.ntmps6
      go_wp2_with fail
      refine (refCheck_any _ _ hp.1 hp.2).mono ?_
      rintro _ w1 ⟨rfl, hb1⟩
      go_wp2_with fail
      refine (alive10_any _).mono ?_
      rintro _ w2 ⟨rfl, hb2⟩
      go_wp2
      go_ret
      exact ⟨rfl, bstep hb1 hb2⟩
    · go_enter Try.func6, Try.ntmps6
      go_wp2_with fail
      refine (refCheck_any _ _ hp.1 hp.2).mono ?_
      rintro _ w1 ⟨rfl, hb1⟩
      go_wp2_with fail
      refine (alive10_any _).mono ?_
      rintro _ w2 ⟨rfl, hb2⟩
      go_wp2
      go_ret
      exact ⟨rfl, bstep hb1 hb2⟩
    · obtain ⟨N, rfl⟩ : ∃ N : Nat, n = N := ⟨n.toNat, by omega⟩
      have hN : 1 ≤ N := by omega
      have hz1 : ((N : Int) == 0) = false := by rw [beq_eq_false_iff_ne]; omega
      have g0 : IntKind.i64.wrap ((P : Int) - 1) = ((P - 1 : Nat) : Int) := by rw [IntWalk.i64_in _ (by omega)]; omega
      by_cases hm : (P - 1) % N = 0
      · have f1 : ((((P - 1) % N : Nat) : Int) != 0) = false := by rw [hm]; rfl
        obtain ⟨R, r1, r2, r3, r4, r5⟩ := root_facts HP.out h3 hN hm
        have HR := Lib.hid r1
        have HO := Lib.hid r3
        have H1 := Lib.hid r4
        have HD := Lib.hid r5
        clear r1 r3 r4 r5 hm
        have f4 : (((N : Nat) : Int) != (N : Int)) = false := by simp
        obtain ⟨i0, hi0, hz0, hz1', hz2⟩ := info_int64
        go_enter Try.func6, Try.ntmps6
        go_wp2_with fail
        refine (refCheck_any _ _ hp.1 hp.2).mono ?_
        rintro _ w1 ⟨rfl, hb1⟩
        go_wp2_with fail
        refine (ringRoot_at (P : Int) (N : Int) (R : Int) 0 HR.out _ hp.1 hp.2 hn.2).mono ?_
        rintro _ w2 ⟨rfl, hb2⟩
        have hB2 := bstep hb1 hb2
        clear hb1 hb2
        go_wp2_with fail
        refine (ringOrder_at (P : Int) (R : Int) (N : Int) 0 HO.out _ hp.1 hp.2).mono ?_
        rintro _ w3 ⟨rfl, hb3⟩
        have hB3 := bstep hB2 hb3
        clear hB2 hb3
        go_wp2
        go_loopg [9, 10, 11] N (fun gk v x i wr => ∃ (k X : Nat), k + gk = N ∧ x = .int .i64 X ∧ i = .int .i64 k ∧ X < P ∧ Hid (X = R ^ k % P) ∧ wr.ownsRow w.heap.size 2 1 v k ((pwL P R k).flatMap (encI .i64)) ∧ Below w.heap.size w wr)
        case atStart => exact ⟨0, 1, by omega, rfl, rfl, by omega, Lib.hid (by rw [Nat.pow_zero, one_mod HP.out]), World.ownsRow_nil _ _ _ _, hB3⟩
        case round =>
          obtain ⟨k, X, hk, rfl, rfl, hX, HX, hO, hb⟩ := hrel
          have hk' : k ≤ N := by omega
          have HK := Lib.hid hk
          clear hk
          have hsz := hb.size
          obtain ⟨A8, c8, rfl, hc8⟩ := own_shape' hO
          by_cases hlt : k < N
          · have r1 := own_RI_at (pwL_len P R k) hO
            have HX2 := Lib.hid (show X * R % P = R ^ (k + 1) % P by rw [HX.out, Nat.pow_succ, Nat.mod_mul_mod])
            have f5 := mul_wrap (x := X) (y := R) (by omega) (by omega)
            obtain ⟨gu, hgu⟩ : ∃ gu, gu = gk := ⟨gk, rfl⟩
            have HGU := Lib.hid hgu
            clear hgu
            obtain ⟨wo, hwo⟩ : ∃ wo, wo = wr := ⟨wr, rfl⟩
            rw [← hwo] at hO hb hsz r1 ⊢
            clear hwo
            have d1 : decide (k < N) = true := decide_eq_true hlt
            have d2 : decide ((k : Int) < (N : Int)) = true := decide_eq_true (by omega)
            go_wp2
            clear d1 d2
            go_loopg [12] k (fun gk i wr => ∃ j : Nat, j + gk = k ∧ i = .int .i64 j ∧ wr = wo)
            case atStart => exact ⟨0, by omega, rfl, rfl⟩
            case round =>
              obtain ⟨j, hj, rfl, hw⟩ := hrel
              replace hw := hw.symm
              subst hw
              have hj' : j ≤ k := by omega
              have HJ := Lib.hid hj
              clear hj
              by_cases hlt2 : j < k
              · obtain ⟨b1, off1, rfl, hlw1, hc1⟩ := r1.at2 (i := j) (by rw [pwL_len]; exact hlt2)
                rw [pwL_at P R hlt2] at hc1
                have hne := HD.out j k hlt2 hlt
                rw [← HX.out] at hne
                generalize R ^ j % P = Y at *
                have j1 : ((Y : Int) == (X : Int)) = false := by rw [beq_eq_false_iff_ne]; omega
                go_wp2
                go_roundg (gk - 1)
                case rel => exact ⟨j + 1, by have := HJ.out; omega, by go_num, rfl⟩
                case measure => have := HJ.out; omega
              · go_wp2_with (at_builtin; refine wpList_append_own _ rfl _ _ 32 rfl w.heap.size 2 i0 _ 1 8 Try.underlying32 hi0 hz0 hz1' hz2 rfl (by decide) _ k _ rfl (hO.alloc _) ⟨wo.heap.size, 0, none⟩ 1 1 (encI .i64 (X : Int)) rfl rfl (encI_news _ _ _ _) (encI_one _ _) (by unfold maxLen; omega) (by omega) (by simp; omega) ?_; intro v2 w2 hown2 hgrow2 _)
                go_roundg (gu - 1)
                case rel => exact ⟨k + 1, X * R % P, by have := HK.out; have := HGU.out; omega, rfl, by go_num, Nat.mod_lt _ (by omega), HX2, by rw [pwL_snoc, flat_snoc, ← HX.out]; exact hown2, own_below (hb.alloc hsz _) (hO.alloc _) hgrow2 (Nat.le_refl _) (by simp; omega)⟩
                case measure => have := HK.out; have := HGU.out; omega
          · have hX1 : X = 1 := by rw [HX.out, show k = N by omega]; exact H1.out
            have f6 : ((X : Int) == 1) = true := by rw [hX1]; rfl
            clear hX1
            have d1 : decide (k < N) = false := decide_eq_false hlt
            have d2 : decide ((k : Int) < (N : Int)) = false := decide_eq_false (by omega)
            go_wp2_with fail
            refine (alive10_any _).mono ?_
            rintro _ w9 ⟨rfl, hb9⟩
            go_wp2
            go_ret
            exact ⟨by simp, bstep hb hb9⟩
      · have f1 : ((((P - 1) % N : Nat) : Int) != 0) = true := by rw [bne_iff_ne]; omega
        have HR := Lib.hid (show rootS (P : Int) (N : Int) = (0, 6) from root_none HP.out h3 h (by rw [show (P : Int) - 1 = ((P - 1 : Nat) : Int) by omega, ← Int.natCast_emod]; omega))
        clear hm
        go_enter Try.func6, Try.ntmps6
        go_wp2_with fail
        refine (refCheck_any _ _ hp.1 hp.2).mono ?_
        rintro _ w1 ⟨rfl, hb1⟩
        go_wp2_with fail
        refine (ringRoot_at (P : Int) (N : Int) 0 6 HR.out _ hp.1 hp.2 hn.2).mono ?_
        rintro _ w2 ⟨rfl, hb2⟩
        go_wp2_with fail
        refine (alive10_any _).mono ?_
        rintro _ w3 ⟨rfl, hb3⟩
        go_wp2
        go_ret
        exact ⟨by simp, bstep (bstep hb1 hb2) hb3⟩
  · have c0 : (chkE p != 0) = true := by rw [e0]; rfl
    clear e0
    go_enter Try.func6, Try.ntmps6
    go_wp2_with fail
    refine (refCheck_any _ _ hp.1 hp.2).mono ?_
    rintro _ w1 ⟨rfl, hb1⟩
    go_wp2_with fail
    refine (alive10_any _).mono ?_
    rintro _ w2 ⟨rfl, hb2⟩
    go_wp2
    go_ret
    exact ⟨rfl, bstep hb1 hb2⟩
end Go.Proofs.Ytnngkghmhbcgeaa
