/-
  The walk of AlignBack.
-/
import Derived.Test.YtbejkfeloffccaaAlignV0
namespace Go.Proofs.Ytbejkfeloffccaa
open Go.RowKit
set_option linter.unusedVariables false

set_option maxRecDepth 100000 in
set_option maxHeartbeats 8000000 in
theorem alignBack_walk (S : Option Addr) (cs : Nat) (xs : List Int) (d : Int) (A : Option Addr) (c : Nat) (l : List (Int × List Int)) (B : Option Addr) (e : Nat) (l' : List (Int × List Int)) (a m : Int) (w : World)
    (hs : RI .i64 w S xs) (hls : xs.length ≤ 9223372036854775807) (_ : ∀ x ∈ xs, (Lit.int .i64 x).wf = true)
    (_ : -9223372036854775808 ≤ d ∧ d ≤ 9223372036854775807)
    (hx : RB w A l) (hlx : l.length ≤ 9223372036854775807) (hwx : ∀ x ∈ l, (Lit.int .i64 x.1).wf = true ∧ x.2.length ≤ 9223372036854775807 ∧ ∀ y ∈ x.2, (Lit.int .i64 y).wf = true)
    (hy : RB w B l') (hly : l'.length ≤ 9223372036854775807) (hwy : ∀ x ∈ l', (Lit.int .i64 x.1).wf = true ∧ x.2.length ≤ 9223372036854775807 ∧ ∀ y ∈ x.2, (Lit.int .i64 y).wf = true)
    (_ : -9223372036854775808 ≤ a ∧ a ≤ 9223372036854775807) (_ : -9223372036854775808 ≤ m ∧ m ≤ 9223372036854775807) :
    Calls Try.prog 8 #[.slice S xs.length cs, .int .i64 d, .slice A l.length c, .slice B l'.length e, .int .i64 a, .int .i64 m] w fun e w' => e = .returned (.bool true) ∧ Below w.heap.size w w' := by
  clear hwx hwy
  rcases (Decidable.em (xs.length ≤ 300)).symm with h1 | h1
  · have d1 : decide (300 < xs.length) = true := decide_eq_true (by omega)
    go_enter Try.func8, Try.ntmps8
    go_wp2_with fail
    refine (alive14 _).mono ?_
    rintro _ w1 ⟨rfl, hb1⟩
    go_wp2_with fail
    refine (long13_any _ _ _ _).mono ?_
    rintro _ _ ⟨rfl, rfl⟩
    go_wp2
    go_ret
    exact ⟨rfl, hb1⟩
  have d1 : decide (300 < xs.length) = false := decide_eq_false (by omega)
  rcases (Decidable.em (streamErr xs = 0)).symm with he | he
  · have e1 : (streamErr xs != 0) = true := by simp [he]
    clear he
    go_enter Try.func8, Try.ntmps8
    go_wp2_with fail
    refine (alive14 _).mono ?_
    rintro _ w1 ⟨rfl, hb1⟩
    go_wp2_with fail
    refine (long13_any _ _ _ _).mono ?_
    rintro _ _ ⟨rfl, rfl⟩
    go_wp2_with fail
    refine (refCheck13_any _ _ _ _ (hs.keep hb1) (by omega)).mono ?_
    rintro _ _ ⟨rfl, rfl⟩
    go_wp2
    go_ret
    exact ⟨rfl, hb1⟩
  have e1 : (streamErr xs != 0) = false := by simp [he]
  have HE := Lib.hid he
  have hl5 := (streamErr_zero he).1
  clear he
  rcases (show (-64 ≤ d ∧ d ≤ 64) ∨ d < -64 ∨ (-64 ≤ d ∧ 64 < d) by omega).symm with hd | hd
  · rcases hd with hd | hd
    all_goals
      go_enter Try.func8, Try.ntmps8
      go_wp2_with fail
      refine (alive14 _).mono ?_
      rintro _ w1 ⟨rfl, hb1⟩
      go_wp2_with fail
      refine (long13_any _ _ _ _).mono ?_
      rintro _ _ ⟨rfl, rfl⟩
      go_wp2_with fail
      refine (refCheck13_any _ _ _ _ (hs.keep hb1) (by omega)).mono ?_
      rintro _ _ ⟨rfl, rfl⟩
      go_wp2
      go_ret
      exact ⟨rfl, hb1⟩
  by_cases hf : fitB l = true
  · by_cases hf' : fitB l' = true
    · rcases win_ways a m with hw | hw
      · exact alignBack_main S cs xs d A c l B e l' a m w hs hx hlx hy hly HE.out hd hf hf' hw
      · rcases hw with hw | hw | hw | hw
        all_goals
          go_enter Try.func8, Try.ntmps8
          go_wp2_with fail
          refine (alive14 _).mono ?_
          rintro _ w1 ⟨rfl, hb1⟩
          go_wp2_with fail
          refine (long13_any _ _ _ _).mono ?_
          rintro _ _ ⟨rfl, rfl⟩
          go_wp2_with fail
          refine (refCheck13_any _ _ _ _ (hs.keep hb1) (by omega)).mono ?_
          rintro _ _ ⟨rfl, rfl⟩
          go_wp2_with fail
          refine (fit14_any _ _ _ _ (hx.keep hb1) hlx).mono ?_
          rintro _ w2 ⟨rfl, hb2⟩
          go_wp2_with fail
          refine (fit14_any _ _ _ _ (hy.keep (bstep hb1 hb2)) hly).mono ?_
          rintro _ w3 ⟨rfl, hb3⟩
          go_wp2
          go_ret
          exact ⟨rfl, bstep (bstep hb1 hb2) hb3⟩
    · have hf2 : fitB l' = false := by simpa using hf'
      clear hf'
      go_enter Try.func8, Try.ntmps8
      go_wp2_with fail
      refine (alive14 _).mono ?_
      rintro _ w1 ⟨rfl, hb1⟩
      go_wp2_with fail
      refine (long13_any _ _ _ _).mono ?_
      rintro _ _ ⟨rfl, rfl⟩
      go_wp2_with fail
      refine (refCheck13_any _ _ _ _ (hs.keep hb1) (by omega)).mono ?_
      rintro _ _ ⟨rfl, rfl⟩
      go_wp2_with fail
      refine (fit14_any _ _ _ _ (hx.keep hb1) hlx).mono ?_
      rintro _ w2 ⟨rfl, hb2⟩
      go_wp2_with fail
      refine (fit14_any _ _ _ _ (hy.keep (bstep hb1 hb2)) hly).mono ?_
      rintro _ w3 ⟨rfl, hb3⟩
      go_wp2
      go_ret
      exact ⟨rfl, bstep (bstep hb1 hb2) hb3⟩
  · have hf2 : fitB l = false := by simpa using hf
    clear hf
    go_enter Try.func8, Try.ntmps8
    go_wp2_with fail
    refine (alive14 _).mono ?_
    rintro _ w1 ⟨rfl, hb1⟩
    go_wp2_with fail
    refine (long13_any _ _ _ _).mono ?_
    rintro _ _ ⟨rfl, rfl⟩
    go_wp2_with fail
    refine (refCheck13_any _ _ _ _ (hs.keep hb1) (by omega)).mono ?_
    rintro _ _ ⟨rfl, rfl⟩
    go_wp2_with fail
    refine (fit14_any _ _ _ _ (hx.keep hb1) hlx).mono ?_
    rintro _ w2 ⟨rfl, hb2⟩
    go_wp2
    go_ret
    exact ⟨rfl, bstep hb1 hb2⟩
end Go.Proofs.Ytbejkfeloffccaa
