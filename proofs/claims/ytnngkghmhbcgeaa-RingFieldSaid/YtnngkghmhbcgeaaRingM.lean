/-
  RingField.
-/
import Derived.Test.YtnngkghmhbcgeaaRingK
namespace Go.Proofs.Ytnngkghmhbcgeaa
open Go.RowKit Num
set_option linter.unusedVariables false

/-- the inverse of an element that is not 0 -/
theorem inv_facts {P A : Nat} (hP : Pr P) (h3 : P ≤ 2000000000) (hA : A < P) (h0 : 0 < A) :
    ∃ B : Nat, 1 ≤ B ∧ B < P ∧ A * B % P = 1 ∧ invS (P : Int) (A : Int) = ((B : Int), 0) ∧ invS (P : Int) (B : Int) = ((A : Int), 0) := by
  have h2 := hP.1
  have e1 := one_mod hP
  have key : ∀ X, 0 < X → X < P → X * (X ^ (P - 2) % P) % P = 1 := by
    intro X hx0 hx
    rw [Nat.mul_mod, Nat.mod_mod, ← Nat.mul_mod, Nat.mul_comm, ← Nat.pow_succ, show (P - 2).succ = P - 1 by omega]
    exact fermat1 hP (hP.not_dvd_lt hx0 hx)
  have hAB := key A h0 hA
  refine ⟨A ^ (P - 2) % P, ?_, Nat.mod_lt _ (by omega), hAB, inv_val hP h3 hA h0 rfl, ?_⟩
  · rcases Nat.eq_zero_or_pos (A ^ (P - 2) % P) with h | h
    · rw [h, Nat.mul_zero, Nat.zero_mod] at hAB; omega
    · exact h
  · generalize hB : A ^ (P - 2) % P = B at *
    have hB1 : 0 < B := by rcases Nat.eq_zero_or_pos B with h | h; rw [h, Nat.mul_zero, Nat.zero_mod] at hAB; omega; exact h
    have hBP : B < P := by rw [← hB]; exact Nat.mod_lt _ (by omega)
    have hBC := key B hB1 hBP
    refine inv_val hP h3 hBP hB1 ?_
    generalize hC : B ^ (P - 2) % P = C at *
    have hCP : C < P := by rw [← hC]; exact Nat.mod_lt _ (by omega)
    have a1 : (A * B * C) % P = C := by rw [mul_mod_one (hAB.trans e1.symm), Nat.mod_eq_of_lt hCP]
    have a2 : (B * C * A) % P = A := by rw [mul_mod_one (hBC.trans e1.symm), Nat.mod_eq_of_lt hA]
    rw [← a1, ← a2]
    congr 1
    grind
theorem pow_facts {P A M N : Nat} (hP : Pr P) (h3 : P ≤ 2000000000) (hA : A < P) :
    ∃ X Y Z : Nat, X < P ∧ Y < P ∧ X * Y % P = Z ∧ powS (P : Int) (A : Int) (M : Int) = ((X : Int), 0) ∧ powS (P : Int) (A : Int) (N : Int) = ((Y : Int), 0) ∧ powS (P : Int) (A : Int) ((M + N : Nat) : Int) = ((Z : Int), 0) ∧ powS (P : Int) (A : Int) (P : Int) = ((A : Int), 0) := by
  have h2 := hP.1
  refine ⟨A ^ M % P, A ^ N % P, A ^ (M + N) % P, Nat.mod_lt _ (by omega), Nat.mod_lt _ (by omega), ?_, pow_val hP h3 hA rfl, pow_val hP h3 hA rfl, pow_val hP h3 hA rfl, pow_val hP h3 hA ?_⟩
  · rw [← Nat.mul_mod, Nat.pow_add]
  · rw [fermat hP, Nat.mod_eq_of_lt hA]

set_option maxRecDepth 20000 in
set_option maxHeartbeats 1000000 in
theorem ringField_walk (p a m n : Int) (w : World) (hp : -9223372036854775808 ≤ p ∧ p ≤ 9223372036854775807) (ha : -9223372036854775808 ≤ a ∧ a ≤ 9223372036854775807) (hm : -9223372036854775808 ≤ m ∧ m ≤ 9223372036854775807) (hn : -9223372036854775808 ≤ n ∧ n ≤ 9223372036854775807) :
    Calls Try.prog 9 #[.int .i64 p, .int .i64 a, .int .i64 m, .int .i64 n] w fun e w' => e = .returned (.bool true) ∧ Below w.heap.size w w' := by
  rcases both_cases p a with ⟨e0, P, A, rfl, rfl, h2, h3, hP, hA⟩ | e0
  · have c0 : (bothE (P : Int) (A : Int) != 0) = false := by rw [e0]; rfl
    have HP := Lib.hid hP
    have HE := Lib.hid e0
    clear hP e0
    rcases (show m < 0 ∨ (0 ≤ m ∧ n < 0) ∨ (0 ≤ m ∧ 0 ≤ n ∧ 1000000000 < m) ∨ (0 ≤ m ∧ 0 ≤ n ∧ m ≤ 1000000000 ∧ 1000000000 < n) ∨ (0 ≤ m ∧ 0 ≤ n ∧ m ≤ 1000000000 ∧ n ≤ 1000000000) by omega) with h | ⟨h, h'⟩ | ⟨h, h', h''⟩ | ⟨h, h', h'', h3'⟩ | ⟨h, h', h'', h3'⟩
    · go_enter Try.func9, Try.ntmps9
      go_wp2_with fail
      refine (refBoth_any _ _ _ (by omega) (by omega)).mono ?_
      rintro _ w1 ⟨rfl, hb1⟩
      go_wp2_with fail
      refine (alive10_any _).mono ?_
      rintro _ w2 ⟨rfl, hb2⟩
      go_wp2
      go_ret
      exact ⟨rfl, bstep hb1 hb2⟩
    · go_enter Try.func9, Try.ntmps9
      go_wp2_with fail
      refine (refBoth_any _ _ _ (by omega) (by omega)).mono ?_
      rintro _ w1 ⟨rfl, hb1⟩
      go_wp2_with fail
      refine (alive10_any _).mono ?_
      rintro _ w2 ⟨rfl, hb2⟩
      go_wp2
      go_ret
      exact ⟨rfl, bstep hb1 hb2⟩
    · go_enter Try.func9, Try.ntmps9
      go_wp2_with fail
      refine (refBoth_any _ _ _ (by omega) (by omega)).mono ?_
      rintro _ w1 ⟨rfl, hb1⟩
      go_wp2_with fail
      refine (alive10_any _).mono ?_
      rintro _ w2 ⟨rfl, hb2⟩
      go_wp2
      go_ret
      exact ⟨rfl, bstep hb1 hb2⟩
    · go_enter Try.func9, Try.ntmps9
      go_wp2_with fail
      refine (refBoth_any _ _ _ (by omega) (by omega)).mono ?_
      rintro _ w1 ⟨rfl, hb1⟩
      go_wp2_with fail
      refine (alive10_any _).mono ?_
      rintro _ w2 ⟨rfl, hb2⟩
      go_wp2
      go_ret
      exact ⟨rfl, bstep hb1 hb2⟩
    · obtain ⟨M, rfl⟩ : ∃ M : Nat, m = M := ⟨m.toNat, by omega⟩
      obtain ⟨N, rfl⟩ : ∃ N : Nat, n = N := ⟨n.toNat, by omega⟩
      obtain ⟨X, Y, Z, hX, hY, hXY, x1, x2, x3, x4⟩ := pow_facts (M := M) (N := N) HP.out h3 hA
      have HX := Lib.hid x1
      have HY := Lib.hid x2
      have HZ := Lib.hid (show powS (P : Int) (A : Int) ((M : Int) + (N : Int)) = ((Z : Int), 0) from x3)
      have HW := Lib.hid x4
      have f1 := mul_wrap (x := X) (y := Y) (by omega) (by omega)
      generalize X * Y = K at f1 hXY
      have f2 : ((K : Int) % (P : Int) == (Z : Int)) = true := by rw [← Int.natCast_emod, hXY]; simp
      have f3 : (((A : Nat) : Int) == (A : Int)) = true := by simp
      clear x1 x2 x3 x4
      by_cases hA0 : A = 0
      · have c1 : ((A : Int) == 0) = true := by rw [hA0]; rfl
        have HI := Lib.hid (show invS (P : Int) (A : Int) = (0, 18) by rw [hA0]; exact inv_zero HP.out h3)
        clear hA0
        go_enter Try.func9, Try.ntmps9
        go_wp2_with fail
        refine (refBoth_any _ _ _ (by omega) (by omega)).mono ?_
        rintro _ w1 ⟨rfl, hb1⟩
        go_wp2_with fail
        refine (ringInv_at (P : Int) (A : Int) 0 18 HI.out _ (by omega) (by omega)).mono ?_
        rintro _ w2 ⟨rfl, hb2⟩
        have hB2 := bstep hb1 hb2
        clear hb1 hb2
        go_wp2_with fail
        refine (ringPow_at (P : Int) (A : Int) (M : Int) (X : Int) 0 HX.out _ (by omega) (by omega) (by omega)).mono ?_
        rintro _ w3 ⟨rfl, hb3⟩
        have hB3 := bstep hB2 hb3
        go_wp2_with fail
        refine (ringPow_at (P : Int) (A : Int) (N : Int) (Y : Int) 0 HY.out _ (by omega) (by omega) (by omega)).mono ?_
        rintro _ w4 ⟨rfl, hb4⟩
        have hB4 := bstep hB3 hb4
        go_wp2_with fail
        refine (ringPow_at (P : Int) (A : Int) ((M : Int) + (N : Int)) (Z : Int) 0 HZ.out _ (by omega) (by omega) (by omega)).mono ?_
        rintro _ w5 ⟨rfl, hb5⟩
        have hB5 := bstep hB4 hb5
        go_wp2_with fail
        refine (ringPow_at (P : Int) (A : Int) (P : Int) (A : Int) 0 HW.out _ (by omega) (by omega) (by omega)).mono ?_
        rintro _ w6 ⟨rfl, hb6⟩
        have hB6 := bstep hB5 hb6
        clear hb3 hb4 hb5 hb6 hB3 hB4 hB5
        go_wp2_with fail
        refine (alive10_any _).mono ?_
        rintro _ w7 ⟨rfl, hb7⟩
        go_wp2
        go_ret
        exact ⟨by simp, bstep hB6 hb7⟩
      · have c1 : ((A : Int) == 0) = false := by rw [beq_eq_false_iff_ne]; omega
        obtain ⟨B, hB1, hBP, hAB, i1, i2⟩ := inv_facts HP.out h3 hA (by omega)
        have HI := Lib.hid i1
        have HJ := Lib.hid i2
        have g1 := mul_wrap (x := A) (y := B) (by omega) (by omega)
        generalize A * B = K2 at g1 hAB
        have g2 : ((K2 : Int) % (P : Int) != 1) = false := by rw [← Int.natCast_emod, hAB]; rfl
        have g3 : (((A : Nat) : Int) != (A : Int)) = false := by simp
        clear hA0 i1 i2
        go_enter Try.func9, Try.ntmps9
        go_wp2_with fail
        refine (refBoth_any _ _ _ (by omega) (by omega)).mono ?_
        rintro _ w1 ⟨rfl, hb1⟩
        go_wp2_with fail
        refine (ringInv_at (P : Int) (A : Int) (B : Int) 0 HI.out _ (by omega) (by omega)).mono ?_
        rintro _ w2 ⟨rfl, hb2⟩
        have hB2 := bstep hb1 hb2
        clear hb1 hb2
        go_wp2_with fail
        refine (ringInv_at (P : Int) (B : Int) (A : Int) 0 HJ.out _ (by omega) (by omega)).mono ?_
        rintro _ w2' ⟨rfl, hb2'⟩
        have hB2' := bstep hB2 hb2'
        clear hB2 hb2'
        go_wp2_with fail
        refine (ringPow_at (P : Int) (A : Int) (M : Int) (X : Int) 0 HX.out _ (by omega) (by omega) (by omega)).mono ?_
        rintro _ w3 ⟨rfl, hb3⟩
        have hB3 := bstep hB2' hb3
        go_wp2_with fail
        refine (ringPow_at (P : Int) (A : Int) (N : Int) (Y : Int) 0 HY.out _ (by omega) (by omega) (by omega)).mono ?_
        rintro _ w4 ⟨rfl, hb4⟩
        have hB4 := bstep hB3 hb4
        go_wp2_with fail
        refine (ringPow_at (P : Int) (A : Int) ((M : Int) + (N : Int)) (Z : Int) 0 HZ.out _ (by omega) (by omega) (by omega)).mono ?_
        rintro _ w5 ⟨rfl, hb5⟩
        have hB5 := bstep hB4 hb5
        go_wp2_with fail
        refine (ringPow_at (P : Int) (A : Int) (P : Int) (A : Int) 0 HW.out _ (by omega) (by omega) (by omega)).mono ?_
        rintro _ w6 ⟨rfl, hb6⟩
        have hB6 := bstep hB5 hb6
        clear hb3 hb4 hb5 hb6 hB3 hB4 hB5
        go_wp2_with fail
        refine (alive10_any _).mono ?_
        rintro _ w7 ⟨rfl, hb7⟩
        go_wp2
        go_ret
        exact ⟨by simp, bstep hB6 hb7⟩
  · have c0 : (bothE p a != 0) = true := by rw [bne_iff_ne]; omega
    go_enter Try.func9, Try.ntmps9
    go_wp2_with fail
    refine (refBoth_any _ _ _ (by omega) (by omega)).mono ?_
    rintro _ w1 ⟨rfl, hb1⟩
    go_wp2_with fail
    refine (alive10_any _).mono ?_
    rintro _ w2 ⟨rfl, hb2⟩
    go_wp2
    go_ret
    exact ⟨rfl, bstep hb1 hb2⟩
end Go.Proofs.Ytnngkghmhbcgeaa
