/-
  The walk of LagLists.
-/
import Derived.Test.YtfmhliiljmcejaaLagH
namespace Go.Proofs.Ytfmhliiljmcejaa
open Go.RowKit
set_option linter.unusedVariables false

def totS (l : List (Int × Int)) : Int × Int := if lagErr l = 0 then sumP l else (0, 0)
theorem totalEnd_eq (l : List (Int × Int)) : totalEnd l = .tuple #[.agg #[.int .i64 (totS l).1, .int .i64 (totS l).2], .int .i64 (lagErr l)] := by
  unfold totalEnd totS
  split <;> rfl

theorem addSpec_len_le (a b : List (Int × Int)) : (addSpec a b).1.length ≤ a.length := by
  unfold addSpec
  repeat' split
  all_goals simp [addP]
  all_goals omega
theorem flipSpec_len_le (a : List (Int × Int)) : (flipSpec a).1.length ≤ a.length := by
  unfold flipSpec
  split <;> simp

theorem lagLists_walk (A : Option Addr) (c : Nat) (a : List (Int × Int)) (B : Option Addr) (d : Nat) (b : List (Int × Int)) (w : World)
    (hx : RL w A a) (_ : a.length ≤ 9223372036854775807) (_ : ∀ x ∈ a, (Lit.int .i64 x.1).wf = true ∧ (Lit.int .i64 x.2).wf = true) (hy : RL w B b) (_ : b.length ≤ 9223372036854775807) (_ : ∀ x ∈ b, (Lit.int .i64 x.1).wf = true ∧ (Lit.int .i64 x.2).wf = true) :
    Calls Try.prog 4 #[.slice A a.length c, .slice B b.length d] w fun e w' => e = .returned (.bool true) ∧ Below w.heap.size w w' := by
  rcases (Decidable.em (a.length ≤ 600)).symm with h1 | h1
  · have d1 : decide (600 < a.length) = true := by simp; omega
    go_enter Try.func4, Try.ntmps4
    go_wp2_with (go_at_call 17; refine (long16_any _ _ _ _).mono ?_; rintro e w' ⟨rfl, rfl⟩)
    go_ret
    exact ⟨rfl, Below.refl _ _⟩
  have d1 : decide (600 < a.length) = false := by simp; omega
  rcases (Decidable.em (b.length ≤ 600)).symm with h2 | h2
  · have d2 : decide (600 < b.length) = true := by simp; omega
    go_enter Try.func4, Try.ntmps4
    go_wp2_with (go_at_call 17; refine (long16_any _ _ _ _).mono ?_; rintro e w' ⟨rfl, rfl⟩)
    go_ret
    exact ⟨rfl, Below.refl _ _⟩
  have d2 : decide (600 < b.length) = false := by simp; omega
  have hla : a.length ≤ 140737488355328 := by omega
  have hlb : b.length ≤ 140737488355328 := by omega
  have g1 := eqg_lag
  have g2 := eq_lag
  go_enter Try.func4, Try.ntmps4
  go_wp2_with (go_at_call 17; refine (long16_any _ _ _ _).mono ?_; rintro e w' ⟨rfl, rfl⟩)
  refine (lagTotal_any _ _ _ _ hx hla).mono ?_
  rintro e w1 ⟨he, hb1⟩
  rw [totalEnd_eq] at he
  subst he
  go_wp2_with fail
  refine (refTotal_any _ _ _ _ (hx.keep (hb1.alloc hb1.size _)) hla).mono ?_
  rintro e w2 ⟨he, hb2⟩
  rw [totalEnd_eq] at he
  subst he
  have hT := Blk.new w1 39 #[.int .i64 (totS a).1, .int .i64 (totS a).2]
  replace hT := (hT.keep hb2).alloc (.cells #[.int .i64 (totS a).1, .int .i64 (totS a).2] 39)
  have hU := Blk.new w2 39 #[.int .i64 (totS a).1, .int .i64 (totS a).2]
  have hB2 := balloc (bstep (balloc hb1 _) hb2) (.cells #[.int .i64 (totS a).1, .int .i64 (totS a).2] 39)
  clear hb1 hb2
  go_wp2_with fail
  refine (lagAdd_any _ _ _ _ _ _ _ (hx.keep hB2) (hy.keep hB2) hla hlb).mono ?_
  rintro e w3 ⟨A3, c3, rfl, ho3, hb3⟩
  replace hT := hT.keep hb3
  replace hU := hU.keep hb3
  have hB3 := bstep hB2 hb3
  clear hb3
  go_wp2_with fail
  refine (refAdd_any _ _ _ _ _ _ _ (hx.keep hB3) (hy.keep hB3) hla hlb).mono ?_
  rintro e w4 ⟨A4, c4, rfl, ho4, hb4⟩
  replace hT := hT.keep hb4
  replace hU := hU.keep hb4
  replace ho3 := own_keep ho3 hb4
  have hB4 := bstep hB3 hb4
  clear hb4 hB3
  go_wp2_with fail
  refine (lagCheck_any _ _ _ _ (hx.keep hB4) hla).mono ?_
  rintro e w5 ⟨rfl, hb5⟩
  replace hT := hT.keep hb5
  replace hU := hU.keep hb5
  replace ho3 := own_keep ho3 hb5
  replace ho4 := own_keep ho4 hb5
  have hB5 := bstep hB4 hb5
  clear hb5 hB4
  go_wp2_with fail
  refine (refCheck16_any _ _ _ _ (hx.keep hB5) hla).mono ?_
  rintro e w6 ⟨rfl, hb6⟩
  replace hT := hT.keep hb6
  replace hU := hU.keep hb6
  replace ho3 := own_keep ho3 hb6
  replace ho4 := own_keep ho4 hb6
  have hB6 := bstep hB5 hb6
  clear hb6 hB5
  have t0 : w6.cell? ⟨w1.heap.size, 0, none⟩ = some (.int .i64 (totS a).1) := hT.cell 0
  have t1 : w6.cell? ⟨w1.heap.size, 1, none⟩ = some (.int .i64 (totS a).2) := hT.cell 1
  have u0 : w6.cell? ⟨w2.heap.size, 0, none⟩ = some (.int .i64 (totS a).1) := hU.cell 0
  have u1 : w6.cell? ⟨w2.heap.size, 1, none⟩ = some (.int .i64 (totS a).2) := hU.cell 1
  have hr1 : (addSpec a b).1.length ≤ 140737488355328 := by have := addSpec_len_le a b; omega
  go_wp2_with fail
  refine (same16_any _ _ _ _ _ _ _ (own_RL ho3) (own_RL ho4) hr1 hr1).mono ?_
  rintro e w7 ⟨rfl, q7, rfl⟩
  replace hB6 := below_drewN hB6 q7
  clear t0 t1 u0 u1 hT hU ho3 ho4
  go_wp2_with fail
  refine (lagFlip_any _ _ _ _ (hx.keep hB6) hla).mono ?_
  rintro e w8 ⟨A8, c8, rfl, ho8, hb8⟩
  have hB8 := bstep hB6 hb8
  clear hb8 hB6
  go_wp2_with fail
  refine (refFlip_any _ _ _ _ (hx.keep hB8) hla).mono ?_
  rintro e w9 ⟨A9, c9, rfl, ho9, hb9⟩
  have hB9 := bstep hB8 hb9
  replace ho8 := own_keep ho8 hb9
  clear hb9 hB8
  go_wp2_with fail
  refine (lagPeak_any _ _ _ _ (hx.keep hB9) hla).mono ?_
  rintro e w10 ⟨rfl, hb10⟩
  have hB10 := bstep hB9 hb10
  replace ho8 := own_keep ho8 hb10
  replace ho9 := own_keep ho9 hb10
  clear hb10 hB9
  go_wp2_with fail
  refine (refPeak_any _ _ _ _ (hx.keep hB10) hla).mono ?_
  rintro e w11 ⟨rfl, hb11⟩
  have hB11 := bstep hB10 hb11
  replace ho8 := own_keep ho8 hb11
  replace ho9 := own_keep ho9 hb11
  clear hb11 hB10
  have hr2 : (flipSpec a).1.length ≤ 140737488355328 := by have := flipSpec_len_le a; omega
  go_wp2_with fail
  refine (same16_any _ _ _ _ _ _ _ (own_RL ho8) (own_RL ho9) hr2 hr2).mono ?_
  rintro e w12 ⟨rfl, q12, rfl⟩
  go_wp2
  go_ret
  exact ⟨by simp, below_drewN hB11 q12⟩
end Go.Proofs.Ytfmhliiljmcejaa
