/-
  RingOrders.
-/
import Derived.Test.YtnngkghmhbcgeaaRingK
namespace Go.Proofs.Ytnngkghmhbcgeaa
open Go.RowKit Num
set_option linter.unusedVariables false

theorem ord_facts {P A : Nat} (hP : Pr P) (h3 : P ≤ 2000000000) (hA : A < P) (h0 : 0 < A) :
    ∃ n : Nat, ordS (P : Int) (A : Int) = ((n : Int), 0) ∧ 1 ≤ n ∧ n ≤ P - 1 ∧ (P - 1) % n = 0 ∧ A ^ n % P = 1 ∧ facS (n : Int) = (toI (facs n), 0) ∧ (∀ k, k < (facs n).length → n % (facs n).getD k 0 = 0 ∧ A ^ (n / (facs n).getD k 0) % P ≠ 1) ∧ n = ordN P A := by
  have h2 := hP.1
  obtain ⟨⟨a1, a2, a3⟩, a4⟩ := ordN_is hP (hP.not_dvd_lt h0 hA)
  have hle := Nat.le_of_dvd (by omega) a4
  refine ⟨ordN P A, ord_val hP h3 hA h0 rfl, a1, hle, Nat.mod_eq_zero_of_dvd a4, a2, facS_in a1 (by omega), ?_, rfl⟩
  intro k hk
  have hf := facs_of a1
  rw [getD_lt _ _ hk]
  have hd : (facs (ordN P A))[k] ∣ ordN P A := by have := dvd_mulAll (List.getElem_mem hk); rw [hf.1] at this; exact this
  exact ⟨Nat.mod_eq_zero_of_dvd hd, a3 _ (hf.2.1 _ (List.getElem_mem hk)) hd⟩
theorem gen_facts {P : Nat} (hP : Pr P) (h3 : P ≤ 2000000000) :
    ∃ g : Nat, genS (P : Int) = ((g : Int), 0) ∧ 1 ≤ g ∧ g < P ∧ ordS (P : Int) (g : Int) = (((P - 1 : Nat) : Int), 0) ∧ ∀ B o : Nat, 0 < B → B < P → o = ordN P B → o ≤ P - 1 → g ≤ B ∨ o < P - 1 := by
  have h2 := hP.1
  obtain ⟨a, b, c, d⟩ := genN_is hP
  refine ⟨genN P, gen_val hP h3 rfl, a, b, ord_val hP h3 b a ((gen_ord hP (hP.not_dvd_lt a b)).1 c), ?_⟩
  intro B o hB0 hBP ho hle
  by_cases h : o = P - 1
  · left
    exact d B hB0 ((gen_ord hP (hP.not_dvd_lt hB0 hBP)).2 (ho ▸ h))
  · right; omega

set_option maxRecDepth 20000 in
set_option maxHeartbeats 2000000 in
theorem ringOrders_walk (p a b : Int) (w : World) (hp : -9223372036854775808 ≤ p ∧ p ≤ 9223372036854775807) (ha : -9223372036854775808 ≤ a ∧ a ≤ 9223372036854775807) (hbb : -9223372036854775808 ≤ b ∧ b ≤ 9223372036854775807) :
    Calls Try.prog 5 #[.int .i64 p, .int .i64 a, .int .i64 b] w fun e w' => e = .returned (.bool true) ∧ Below w.heap.size w w' := by
  rcases both_cases p a with ⟨e0, P, A, rfl, rfl, h2, h3, hP, hA⟩ | e0
  · have c0 : (bothE (P : Int) (A : Int) != 0) = false := by rw [e0]; rfl
    have HP := Lib.hid hP
    have HE := Lib.hid e0
    clear hP e0
    rcases both_cases (P : Int) b with ⟨e0, P', B, e1, rfl, _, _, _, hB⟩ | e0
    · obtain rfl : P = P' := by omega
      have c1 : (bothE (P : Int) (B : Int) != 0) = false := by rw [e0]; rfl
      clear e0 e1
      by_cases hA0 : A = 0
      · have d1 : ((A : Int) == 0) = true := by rw [hA0]; rfl
        clear hA0
        go_enter Try.func5, Try.ntmps5
        go_wp2_with fail
        refine (refBoth_any _ _ _ (by omega) (by omega)).mono ?_
        rintro _ w1 ⟨rfl, hb1⟩
        go_wp2_with fail
        refine (refBoth_any _ _ _ (by omega) (by omega)).mono ?_
        rintro _ w2 ⟨rfl, hb2⟩
        go_wp2_with fail
        refine (alive10_any _).mono ?_
        rintro _ w3 ⟨rfl, hb3⟩
        go_wp2
        go_ret
        exact ⟨rfl, bstep (bstep hb1 hb2) hb3⟩
      · have d1 : ((A : Int) == 0) = false := by rw [beq_eq_false_iff_ne]; omega
        by_cases hB0 : B = 0
        · have d2 : ((B : Int) == 0) = true := by rw [hB0]; rfl
          clear hB0 hA0
          go_enter Try.func5, Try.ntmps5
          go_wp2_with fail
          refine (refBoth_any _ _ _ (by omega) (by omega)).mono ?_
          rintro _ w1 ⟨rfl, hb1⟩
          go_wp2_with fail
          refine (refBoth_any _ _ _ (by omega) (by omega)).mono ?_
          rintro _ w2 ⟨rfl, hb2⟩
          go_wp2_with fail
          refine (alive10_any _).mono ?_
          rintro _ w3 ⟨rfl, hb3⟩
          go_wp2
          go_ret
          exact ⟨rfl, bstep (bstep hb1 hb2) hb3⟩
        · have d2 : ((B : Int) == 0) = false := by rw [beq_eq_false_iff_ne]; omega
          obtain ⟨n, n1, n2, n3, n4, n5, n6, n7, n8⟩ := ord_facts HP.out h3 hA (by omega)
          obtain ⟨o, o1, o2, o3, _, _, _, _, o8⟩ := ord_facts HP.out h3 hB (by omega)
          obtain ⟨g, g1, g2, g3, g4, g5⟩ := gen_facts HP.out h3
          have hgo := g5 B o (by omega) hB o8 o3
          have HN := Lib.hid n1
          have HO := Lib.hid o1
          have HG := Lib.hid g1
          have HGO := Lib.hid g4
          have HF := Lib.hid n6
          have HL := Lib.hid n7
          have h5 : A ^ n % P = 1 := n5
          clear n1 o1 g1 g4 n6 n7 n8 o8 g5 n5 hA0 hB0
          have k0 : IntKind.i64.wrap ((P : Int) - 1) = ((P - 1 : Nat) : Int) := by rw [IntWalk.i64_in _ (by omega)]; omega
          have k1 : ((((P - 1) % n : Nat) : Int) != 0) = false := by rw [n4]; rfl
          have hfl := fac_len (n := n) (by omega) (by omega)
          have hml := toI_len (facs n)
          have hge := Lib.hid (fun (k : Nat) hk => fac_ge (n := n) (k := k) (by omega) hk)
          have hle := Lib.hid (fun (k : Nat) hk => fac_le (n := n) (k := k) (by omega) hk)
          go_enter Try.func5, Try.ntmps5
          go_wp2_with fail
          refine (refBoth_any _ _ _ (by omega) (by omega)).mono ?_
          rintro _ w1 ⟨rfl, hb1⟩
          go_wp2_with fail
          refine (refBoth_any _ _ _ (by omega) (by omega)).mono ?_
          rintro _ w2 ⟨rfl, hb2⟩
          have hB2 := bstep hb1 hb2
          clear hb1 hb2
          go_wp2_with fail
          refine (ringOrder_at (P : Int) (A : Int) (n : Int) 0 HN.out _ (by omega) (by omega)).mono ?_
          rintro _ w3 ⟨rfl, hb3⟩
          have hB3 := bstep hB2 hb3
          clear hB2 hb3
          go_wp2_with fail
          refine (refPower_any P A n _ h2 h3 (by omega) (by omega)).mono ?_
          rintro _ w4 ⟨rfl, rfl⟩
          rw [h5]
          clear h5
          go_wp2_with fail
          refine (ringFacs_at (n : Int) (toI (facs n)) 0 HF.out _ (by omega) (by omega)).mono ?_
          rintro _ w5 ⟨A1, c5, rfl, r1, hb5⟩
          have hB5 := bstep hB3 hb5
          clear hB3 hb5
          go_wp2
          (try simp only [hml])
          go_loopg [11] (facs n).length (fun gk i wr => ∃ k : Nat, k + gk = (facs n).length ∧ i = .int .i64 k ∧ wr = w5)
          case atStart => exact ⟨0, by omega, rfl, rfl⟩
          case round =>
            obtain ⟨k, hk, rfl, rfl⟩ := hrel
            have hk' : k ≤ (facs n).length := by omega
            have HK := Lib.hid hk
            clear hk
            by_cases hlt : k < (facs n).length
            · obtain ⟨b1, off1, rfl, hlw1, hc1⟩ := r1.at2 (i := k) (by rw [hml]; exact hlt)
              rw [toI_at _ hlt] at hc1
              have hq2 := hge.out k hlt
              have hqle := hle.out k hlt
              have hq3 := HL.out k hlt
              generalize (facs n).getD k 0 = q at *
              obtain ⟨hq4, hq5⟩ := hq3
              have j1 : (((n % q : Nat) : Int) != 0) = false := by rw [hq4]; rfl
              have j2 : IntKind.i64.wrap ((n : Int) / (q : Int)) = ((n / q : Nat) : Int) := by rw [IntWalk.i64_left]; exact quo_wrap (by omega)
              have j3 : n / q ≤ n := Nat.div_le_self n q
              generalize hQ : n / q = Q at *
              go_wp2_with fail
              refine (refPower_any P A Q _ h2 h3 (by omega) (by omega)).mono ?_
              rintro _ w6 ⟨rfl, rfl⟩
              generalize hX : A ^ Q % P = X at *
              have j4 : ((X : Int) == 1) = false := by rw [beq_eq_false_iff_ne]; omega
              go_wp2
              go_roundg (gk - 1)
              case rel => exact ⟨k + 1, by have := HK.out; omega, by go_num, rfl⟩
              case measure => have := HK.out; omega
            · go_wp2_with fail
              refine (ringGen_at (P : Int) (g : Int) 0 HG.out _ (by omega) (by omega)).mono ?_
              rintro _ w7 ⟨rfl, hb7⟩
              have hB7 := bstep hB5 hb7
              go_wp2_with fail
              refine (ringOrder_at (P : Int) (g : Int) ((P - 1 : Nat) : Int) 0 HGO.out _ (by omega) (by omega)).mono ?_
              rintro _ w8 ⟨rfl, hb8⟩
              have hB8 := bstep hB7 hb8
              go_wp2_with fail
              refine (ringOrder_at (P : Int) (B : Int) (o : Int) 0 HO.out _ (by omega) (by omega)).mono ?_
              rintro _ w9 ⟨rfl, hb9⟩
              have hB9 := bstep hB8 hb9
              clear hb7 hb8 hb9 hB7 hB8
              have z1 : (((P - 1 : Nat) : Int) == ((P - 1 : Nat) : Int)) = true := by simp
              rcases hgo with hgo | hgo
              · have z2 : decide (g ≤ B) = true := decide_eq_true hgo
                have z3 : decide ((g : Int) ≤ (B : Int)) = true := decide_eq_true (by omega)
                go_wp2_with fail
                refine (alive10_any _).mono ?_
                rintro _ w10 ⟨rfl, hb10⟩
                go_wp2
                go_ret
                exact ⟨by simp, bstep hB9 hb10⟩
              · have z4 : decide (o < P - 1) = true := decide_eq_true hgo
                have z5 : decide ((o : Int) < ((P - 1 : Nat) : Int)) = true := decide_eq_true (by omega)
                by_cases hgb : g ≤ B
                · have z2 : decide (g ≤ B) = true := decide_eq_true hgb
                  have z3 : decide ((g : Int) ≤ (B : Int)) = true := decide_eq_true (by omega)
                  go_wp2_with fail
                  refine (alive10_any _).mono ?_
                  rintro _ w10 ⟨rfl, hb10⟩
                  go_wp2
                  go_ret
                  exact ⟨by simp, bstep hB9 hb10⟩
                · have z2 : decide (g ≤ B) = false := decide_eq_false hgb
                  have z3 : decide ((g : Int) ≤ (B : Int)) = false := decide_eq_false (by omega)
                  go_wp2_with fail
                  refine (alive10_any _).mono ?_
                  rintro _ w10 ⟨rfl, hb10⟩
                  go_wp2
                  go_ret
                  exact ⟨by simp, bstep hB9 hb10⟩
    · have c1 : (bothE (P : Int) b != 0) = true := by rw [bne_iff_ne]; omega
      go_enter Try.func5, Try.ntmps5
      go_wp2_with fail
      refine (refBoth_any _ _ _ (by omega) (by omega)).mono ?_
      rintro _ w1 ⟨rfl, hb1⟩
      go_wp2_with fail
      refine (refBoth_any _ _ _ (by omega) (by omega)).mono ?_
      rintro _ w2 ⟨rfl, hb2⟩
      go_wp2_with fail
      refine (alive10_any _).mono ?_
      rintro _ w3 ⟨rfl, hb3⟩
      go_wp2
      go_ret
      exact ⟨rfl, bstep (bstep hb1 hb2) hb3⟩
  · have c0 : (bothE p a != 0) = true := by rw [bne_iff_ne]; omega
    go_enter Try.func5, Try.ntmps5
    go_wp2_with fail
    refine (refBoth_any _ _ _ hp.1 hp.2).mono ?_
    rintro _ w1 ⟨rfl, hb1⟩
    go_wp2_with fail
    refine (alive10_any _).mono ?_
    rintro _ w3 ⟨rfl, hb3⟩
    go_wp2
    go_ret
    exact ⟨rfl, bstep hb1 hb3⟩
end Go.Proofs.Ytnngkghmhbcgeaa
