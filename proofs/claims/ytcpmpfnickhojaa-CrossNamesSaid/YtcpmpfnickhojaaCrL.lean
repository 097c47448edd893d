/-
  CrossLags: the walk.
-/
import Derived.Test.YtcpmpfnickhojaaCrK
namespace Go.Proofs.Ytcpmpfnickhojaa
open Go.RowKit Num Dft
set_option linter.unusedVariables false
set_option linter.unusedSimpArgs false
namespace Crs
open Lol

set_option maxHeartbeats 2000000 in
theorem crossLags_walk (A : Option Addr) (c : Nat) (xs : List Int) (B : Option Addr) (d : Nat) (ys : List Int) (most : Int) (w : World)
    (hx : RI .i64 w A xs) (hlx : xs.length ≤ 9223372036854775807) (_ : ∀ x ∈ xs, (Lit.int .i64 x).wf = true) (hcx : xs.length ≤ c)
    (hy : RI .i64 w B ys) (hly : ys.length ≤ 9223372036854775807) (_ : ∀ x ∈ ys, (Lit.int .i64 x).wf = true) (hcy : ys.length ≤ d)
    (_ : -9223372036854775808 ≤ most ∧ most ≤ 9223372036854775807) :
    Calls Try.prog 7 #[.slice A xs.length c, .slice B ys.length d, .int .i64 most] w fun e w' => e = .returned (.bool true) ∧ Below w.heap.size w w' := by
  cases hf : fit17 xs with
  | false =>
    go_enter Try.func7, Try.ntmps7
    go_wp2_with fail
    refine (alive17 _).mono ?_
    rintro _ w1 ⟨rfl, hb1⟩
    go_wp2_with fail
    refine (fit17_any _ _ _ _ (hx.keep hb1) hlx).mono ?_
    rintro _ _ ⟨rfl, rfl⟩
    rw [hf]
    go_wp2
    go_ret
    exact ⟨rfl, hb1⟩
  | true =>
    cases hf2 : fit17 ys with
    | false =>
      go_enter Try.func7, Try.ntmps7
      go_wp2_with fail
      refine (alive17 _).mono ?_
      rintro _ w1 ⟨rfl, hb1⟩
      go_wp2_with fail
      refine (fit17_any _ _ _ _ (hx.keep hb1) hlx).mono ?_
      rintro _ _ ⟨rfl, rfl⟩
      rw [hf]
      go_wp2_with fail
      refine (fit17_any _ _ _ _ (hy.keep hb1) hly).mono ?_
      rintro _ _ ⟨rfl, rfl⟩
      rw [hf2]
      go_wp2
      go_ret
      exact ⟨rfl, hb1⟩
    | true =>
      have hl5 := (Lagw.streamErr_zero (fit17_yes hf)).1
      have hl6 := (Lagw.streamErr_zero (fit17_yes hf2)).1
      have hLen := of_len xs ys most
      have HO1 := fun w hx hy => crossOf_any A B c d xs ys most w hx hy hcx hcy (by omega) (by omega)
      have HO2 := fun w hx hy => Lagw.lagOf_any A B c d xs ys most w hx hy (by omega) (by omega)
      obtain ⟨R, E, hR⟩ : ∃ R E, Lagw.ofSpec xs ys most = (R, E) := ⟨_, _, rfl⟩
      rw [hR] at hLen HO1 HO2
      simp only at hLen
      clear hR
      go_enter Try.func7, Try.ntmps7
      go_wp2_with fail
      refine (alive17 _).mono ?_
      rintro _ w1 ⟨rfl, hb1⟩
      go_wp2_with fail
      refine (fit17_any _ _ _ _ (hx.keep hb1) hlx).mono ?_
      rintro _ _ ⟨rfl, rfl⟩
      rw [hf]
      go_wp2_with fail
      refine (fit17_any _ _ _ _ (hy.keep hb1) hly).mono ?_
      rintro _ _ ⟨rfl, rfl⟩
      rw [hf2]
      clear hf hf2
      go_wp2_with fail
      refine (HO1 _ (hx.keep hb1) (hy.keep hb1)).mono ?_
      rintro _ w3 ⟨A3, c3, rfl, r3, hb3⟩
      have hB3 := bstep hb1 hb3
      clear hb1 hb3
      go_wp2_with fail
      refine (HO2 _ (hx.keep hB3) (hy.keep hB3)).mono ?_
      rintro _ w4 ⟨A4, c4, rfl, ho4, hb4⟩
      have r4 := own_RL ho4
      have hB4 := bstep hB3 hb4
      replace r3 := r3.keep hb4
      clear hb4 hB3 ho4
      have hee : (E == E) = true := by simp
      have hdd : decide (R = R) = true := by simp
      go_wp2_with fail
      refine (Lagc.same16_any _ _ _ _ R R _ r3 r4 (by omega) (by omega)).mono ?_
      rintro _ w5 ⟨rfl, q5, rfl⟩
      go_wp2
      go_ret
      exact ⟨rfl, below_drewN hB4 _⟩
end Crs
end Go.Proofs.Ytcpmpfnickhojaa
