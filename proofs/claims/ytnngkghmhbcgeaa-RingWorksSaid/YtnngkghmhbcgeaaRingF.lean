/-
  RingWorks.
-/
import Derived.Test.YtnngkghmhbcgeaaRingE
namespace Go.Proofs.Ytnngkghmhbcgeaa
open Go.RowKit Num
set_option linter.unusedVariables false

theorem ringWorks_walk (p a n : Int) (w : World) (hp : -9223372036854775808 ≤ p ∧ p ≤ 9223372036854775807) (ha : -9223372036854775808 ≤ a ∧ a ≤ 9223372036854775807) (hn : -9223372036854775808 ≤ n ∧ n ≤ 9223372036854775807) :
    Calls Try.prog 3 #[.int .i64 p, .int .i64 a, .int .i64 n] w fun e w' => e = .returned (.bool true) ∧ Below w.heap.size w w' := by
  have t1 : ∀ x : Int, (x == x) = true := fun x => beq_self_eq_true x
  go_enter Try.func3, Try.ntmps3
  go_wp2_with fail
  refine (ringPow_any p a n _ hp.1 hp.2 hn.2).mono ?_
  rintro _ w1 ⟨rfl, hb1⟩
  go_wp2_with fail
  refine (refPow_any p a n _ hp.1 hp.2 hn.2).mono ?_
  rintro _ w2 ⟨rfl, hb2⟩
  have hB2 := bstep hb1 hb2
  clear hb1 hb2
  go_wp2_with fail
  refine (ringInv_any p a _ hp.1 hp.2).mono ?_
  rintro _ w3 ⟨rfl, hb3⟩
  have hB3 := bstep hB2 hb3
  clear hB2 hb3
  go_wp2_with fail
  refine (refInv_any p a _ hp.1 hp.2).mono ?_
  rintro _ w4 ⟨rfl, hb4⟩
  have hB4 := bstep hB3 hb4
  clear hB3 hb4
  go_wp2_with fail
  refine (ringCheck_any p _ hp.1 hp.2).mono ?_
  rintro _ w5 ⟨rfl, hb5⟩
  have hB5 := bstep hB4 hb5
  clear hB4 hb5
  go_wp2_with fail
  refine (refCheck_any p _ hp.1 hp.2).mono ?_
  rintro _ w6 ⟨rfl, hb6⟩
  have hB6 := bstep hB5 hb6
  clear hB5 hb6
  go_wp2
  go_ret
  exact ⟨by simp, hB6⟩
end Go.Proofs.Ytnngkghmhbcgeaa
