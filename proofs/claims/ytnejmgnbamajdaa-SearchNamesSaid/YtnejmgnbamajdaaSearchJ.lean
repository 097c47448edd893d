/-
  The walk of SearchGrids; the examples of layer 20; the checks of its laws.
-/
import Derived.Test.YtnejmgnbamajdaaSearchI
namespace Go.Proofs.Ytnejmgnbamajdaa
open Go.RowKit
set_option linter.unusedVariables false

theorem grid_len_le (xs ys : List Int) (m s : Int) : (gridSpec xs ys m s).1.length ≤ 300 := by
  unfold gridSpec gridN
  repeat' split
  · simp
  · simp only [fullL_len]; omega
  · simp
set_option maxRecDepth 100000 in
set_option maxHeartbeats 4000000 in
theorem searchGrids_walk (A : Option Addr) (c : Nat) (xs : List Int) (B : Option Addr) (d : Nat) (ys : List Int) (m s : Int) (w : World)
    (hx : RI .i64 w A xs) (hlx : xs.length ≤ 9223372036854775807) (_ : ∀ x ∈ xs, (Lit.int .i64 x).wf = true)
    (hy : RI .i64 w B ys) (hly : ys.length ≤ 9223372036854775807) (_ : ∀ x ∈ ys, (Lit.int .i64 x).wf = true)
    (_ : -9223372036854775808 ≤ m ∧ m ≤ 9223372036854775807) (_ : -9223372036854775808 ≤ s ∧ s ≤ 9223372036854775807) :
    Calls Try.prog 4 #[.slice A xs.length c, .slice B ys.length d, .int .i64 m, .int .i64 s] w fun e w' => e = .returned (.bool true) ∧ Below w.heap.size w w' := by
  rcases (Decidable.em (xs.length ≤ 300)).symm with h1 | h1
  · have d1 : decide (300 < xs.length) = true := by simp; omega
    go_enter Try.func4, Try.ntmps4
    go_wp2_with (go_at_call 10; refine (long13_any _ _ _ _).mono ?_; rintro e w' ⟨rfl, rfl⟩)
    go_ret
    exact ⟨rfl, Below.refl _ _⟩
  have d1 : decide (300 < xs.length) = false := by simp; omega
  rcases (Decidable.em (ys.length ≤ 300)).symm with h2 | h2
  · have d2 : decide (300 < ys.length) = true := by simp; omega
    go_enter Try.func4, Try.ntmps4
    go_wp2_with (go_at_call 10; refine (long13_any _ _ _ _).mono ?_; rintro e w' ⟨rfl, rfl⟩)
    go_ret
    exact ⟨rfl, Below.refl _ _⟩
  have d2 : decide (300 < ys.length) = false := by simp; omega
  have hla : xs.length ≤ 140737488355328 := by omega
  have hlb : ys.length ≤ 140737488355328 := by omega
  go_enter Try.func4, Try.ntmps4
  go_wp2_with (go_at_call 10; refine (long13_any _ _ _ _).mono ?_; rintro e w' ⟨rfl, rfl⟩)
  refine (searchGrid_any _ _ _ _ _ _ m s _ hx hy hla hlb).mono ?_
  rintro _ w1 ⟨A1, c1, rfl, ho1, hb1⟩
  have r1 := own_RR encC_len ho1
  clear ho1
  go_wp2_with fail
  refine (refGrid_any _ _ _ _ _ _ m s _ (hx.keep hb1) (hy.keep hb1) hla hlb).mono ?_
  rintro _ w2 ⟨A2, c2, rfl, ho2, hb2⟩
  have r2 := own_RR encC_len ho2
  have hB2 := bstep hb1 hb2
  replace r1 := r1.keep hb2
  clear ho2 hb1 hb2
  go_wp2_with fail
  refine (searchBest_any _ _ _ _ _ _ m s _ (hx.keep hB2) (hy.keep hB2) hla hlb).mono ?_
  rintro _ w3 ⟨rfl, hb3⟩
  obtain ⟨C, hC⟩ : ∃ C, C = bestSpec xs ys m s := ⟨_, rfl⟩
  rw [← hC]
  have HC := Lib.hid hC
  clear hC
  have hb3' := balloc hb3 (.cells #[.int .i64 C.1.d, .int .i64 C.1.r, .int .i64 C.1.re, .int .i64 C.1.im, .int .i64 C.1.pw] 32)
  have hC1 := Blk.new w3 32 #[.int .i64 C.1.d, .int .i64 C.1.r, .int .i64 C.1.re, .int .i64 C.1.im, .int .i64 C.1.pw]
  have hB3 := bstep hB2 hb3'
  replace r1 := r1.keep hb3'
  replace r2 := r2.keep hb3'
  clear hb3 hb3' hB2
  go_wp2_with fail
  refine (refBest_any _ _ _ _ _ _ m s _ (hx.keep hB3) (hy.keep hB3) hla hlb).mono ?_
  rintro _ w4 ⟨rfl, hb4⟩
  rw [← HC.out]
  have hb4' := balloc hb4 (.cells #[.int .i64 C.1.d, .int .i64 C.1.r, .int .i64 C.1.re, .int .i64 C.1.im, .int .i64 C.1.pw] 32)
  have hC2 := Blk.new w4 32 #[.int .i64 C.1.d, .int .i64 C.1.r, .int .i64 C.1.re, .int .i64 C.1.im, .int .i64 C.1.pw]
  have hB4 := bstep hB3 hb4'
  replace r1 := r1.keep hb4'
  replace r2 := r2.keep hb4'
  replace hC1 := hC1.keep hb4'
  clear hb4' hB3
  have hC1w := (Blk.new w3 32 #[.int .i64 C.1.d, .int .i64 C.1.r, .int .i64 C.1.re, .int .i64 C.1.im, .int .i64 C.1.pw]).keep hb4
  have c0 : World.cell? w4 ⟨w3.heap.size, 0, none⟩ = some (.int .i64 C.1.d) := hC1w.cell 0
  have cf0 := hC1w.frozen 0
  have c1 : World.cell? w4 ⟨w3.heap.size, 1, none⟩ = some (.int .i64 C.1.r) := hC1w.cell 1
  have cf1 := hC1w.frozen 1
  have c2 : World.cell? w4 ⟨w3.heap.size, 2, none⟩ = some (.int .i64 C.1.re) := hC1w.cell 2
  have cf2 := hC1w.frozen 2
  have c3 : World.cell? w4 ⟨w3.heap.size, 3, none⟩ = some (.int .i64 C.1.im) := hC1w.cell 3
  have cf3 := hC1w.frozen 3
  have c4 : World.cell? w4 ⟨w3.heap.size, 4, none⟩ = some (.int .i64 C.1.pw) := hC1w.cell 4
  have cf4 := hC1w.frozen 4
  have cfl := hC1w.lt
  clear hb4
  have hsl := grid_len_le xs ys m s
  have g3 := eqg_cell
  have g4 := eq_cell
  go_wp2_with fail
  refine (sameCells_any _ _ _ _ _ _ _ r1 r2 (by omega) (by omega)).mono ?_
  rintro _ w5 ⟨rfl, q5, rfl⟩
  go_wp2
  go_ret
  exact ⟨by simp, below_drewN hB4 _⟩

theorem given20 (w : World) : Calls Try.prog 26 #[] w fun e w' => ∃ A c, e = .returned (.slice A 4 c) ∧ RI .i64 w' A [1, 1, -1, -1] ∧ Below w.heap.size w w' := by
  go_enter Try.func26, Try.ntmps26
  go_wp2
  go_ret
  exact ⟨_, _, rfl, RI_lit' (t := 3) [1, 1, -1, -1] _ rfl (Blk.new w _ _) rfl, balloc (Below.refl _ _) _⟩
theorem ones20 (w : World) : Calls Try.prog 27 #[] w fun e w' => ∃ A c, e = .returned (.slice A 4 c) ∧ RI .i64 w' A [1, 1, 1, 1] ∧ Below w.heap.size w w' := by
  go_enter Try.func27, Try.ntmps27
  go_wp2
  go_ret
  exact ⟨_, _, rfl, RI_lit' (t := 3) [1, 1, 1, 1] _ rfl (Blk.new w _ _) rfl, balloc (Below.refl _ _) _⟩
def wantL : List Cl := [⟨0, 0, 0, 0, 0⟩, ⟨0, 1, 2, -2, 8⟩, ⟨0, 2, 0, 0, 0⟩, ⟨0, 3, 2, 2, 8⟩]
theorem grid_alive : gridSpec [1, 1, -1, -1] [1, 1, 1, 1] 0 1 = (wantL, 0) := by decide
theorem best_alive : bestSpec [1, 1, -1, -1] [1, 1, 1, 1] 0 1 = (⟨0, 1, 2, -2, 8⟩, 0) := by decide
set_option maxRecDepth 100000 in
set_option maxHeartbeats 4000000 in
theorem alive20 (w : World) : Calls Try.prog 24 #[] w fun e w' => e = .returned (.bool true) ∧ Below w.heap.size w w' := by
  go_enter Try.func24, Try.ntmps24
  go_wp2_with fail
  refine (given20 _).mono ?_
  rintro _ w1 ⟨A1, c1, rfl, r1, hb1⟩
  go_wp2_with fail
  refine (ones20 _).mono ?_
  rintro _ w2 ⟨A2, c2, rfl, r2, hb2⟩
  have hB2 := bstep hb1 hb2
  have h3 := searchGrid_any A1 A2 c1 c2 [1, 1, -1, -1] [1, 1, 1, 1] 0 1 _ (r1.keep hb2) r2 (by simp) (by simp)
  rw [grid_alive] at h3
  go_wp2_with fail
  refine (h3).mono ?_
  rintro _ w3 ⟨A3, c3, rfl, ho3, hb3⟩
  have r3 := own_RR encC_len ho3
  have hB3 := bstep hB2 hb3
  clear r1 r2 hb1 hb2 hb3 hB2 ho3 h3
  go_wp2_with fail
  refine (given20 _).mono ?_
  rintro _ w4 ⟨A4, c4, rfl, r4, hb4⟩
  go_wp2_with fail
  refine (ones20 _).mono ?_
  rintro _ w5 ⟨A5, c5, rfl, r5, hb5⟩
  have hB5 := bstep (bstep hB3 hb4) hb5
  have h6 := searchBest_any A4 A5 c4 c5 [1, 1, -1, -1] [1, 1, 1, 1] 0 1 _ (r4.keep hb5) r5 (by simp) (by simp)
  rw [best_alive] at h6
  go_wp2_with fail
  refine (h6).mono ?_
  rintro _ w6 ⟨rfl, hb6⟩
  have hB6 := bstep hB5 hb6
  replace r3 := r3.keep hb4
  replace r3 := r3.keep hb5
  replace r3 := r3.keep hb6
  clear r4 r5 hb4 hb5 hb6 hB3 hB5 h6
  have g3 := eqg_cell
  have g4 := eq_cell
  go_wp2_with fail
  refine (sameCells_any _ _ _ _ wantL wantL _ (r3.keep (balloc (balloc (balloc (Below.refl _ _) _) _) _)) (RR_lit encC_len (t := 32) wantL _ rfl (Blk.newAt _ _ (by simp)) rfl) (by decide) (by decide)).mono ?_
  rintro _ w7 ⟨rfl, q7, rfl⟩
  go_wp2
  go_ret
  exact ⟨by simp, below_drewN (balloc (balloc (balloc hB6 _) _) _) _⟩
theorem fit20_any (A B : Option Addr) (c d : Nat) (xs ys : List Int) (s : Int) (w : World) (hx : RI .i64 w A xs) (hy : RI .i64 w B ys) (hlx : xs.length ≤ 9223372036854775807) (hly : ys.length ≤ 9223372036854775807) :
    Calls Try.prog 25 #[.slice A xs.length c, .slice B ys.length d, .int .i64 s] w fun e w' => e = .returned (.bool (decide (askErr xs ys s = 0))) ∧ w = w' := by
  have hlong : ∀ l : List Int, 300 < l.length → ¬ streamErr l = 0 := fun l h e => by have := (streamErr_zero e).1; omega
  rcases (Decidable.em (xs.length ≤ 300)).symm with h1 | h1
  · have d1 : decide (300 < xs.length) = true := by simp; omega
    have hn := hlong xs (by omega)
    have HN : Hid (decide (askErr xs ys s = 0) = false) := Lib.hid (by simp only [decide_eq_false_iff_not]; intro h; exact hn (askErr_zero h).1)
    clear hn hlong
    go_enter Try.func25, Try.ntmps25
    go_wp2_with (go_at_call 10; refine (long13_any _ _ _ _).mono ?_; rintro e w' ⟨rfl, rfl⟩)
    go_ret
    exact ⟨ret_bool HN.out.symm, rfl⟩
  have d1 : decide (300 < xs.length) = false := by simp; omega
  rcases (Decidable.em (ys.length ≤ 300)).symm with h2 | h2
  · have d2 : decide (300 < ys.length) = true := by simp; omega
    have hn := hlong ys (by omega)
    have HN : Hid (decide (askErr xs ys s = 0) = false) := Lib.hid (by simp only [decide_eq_false_iff_not]; intro h; exact hn (askErr_zero h).2.1)
    clear hn hlong
    go_enter Try.func25, Try.ntmps25
    go_wp2_with (go_at_call 10; refine (long13_any _ _ _ _).mono ?_; rintro e w' ⟨rfl, rfl⟩)
    go_ret
    exact ⟨ret_bool HN.out.symm, rfl⟩
  have d2 : decide (300 < ys.length) = false := by simp; omega
  clear hlong
  rcases (Decidable.em (streamErr xs = 0)).symm with he | he
  · have e1 : (streamErr xs == 0) = false := by simp [he]
    have HN : Hid (decide (askErr xs ys s = 0) = false) := Lib.hid (by simp only [decide_eq_false_iff_not]; intro h; exact he (askErr_zero h).1)
    clear he
    go_enter Try.func25, Try.ntmps25
    go_wp2_with (first | (go_at_call 10; refine (long13_any _ _ _ _).mono ?_; rintro e w' ⟨rfl, rfl⟩) | (go_at_call 40; refine (refCheck13_any _ _ _ _ hx (by omega)).mono ?_; rintro e w' ⟨rfl, rfl⟩))
    go_ret
    exact ⟨ret_bool HN.out.symm, rfl⟩
  have e1 : (streamErr xs == 0) = true := by simp [he]
  have HE := Lib.hid he
  clear he
  rcases (Decidable.em (streamErr ys = 0)).symm with he | he
  · have e2 : (streamErr ys == 0) = false := by simp [he]
    have HN : Hid (decide (askErr xs ys s = 0) = false) := Lib.hid (by simp only [decide_eq_false_iff_not]; intro h; exact he (askErr_zero h).2.1)
    clear he
    go_enter Try.func25, Try.ntmps25
    go_wp2_with (first | (go_at_call 10; refine (long13_any _ _ _ _).mono ?_; rintro e w' ⟨rfl, rfl⟩))
    refine (refCheck13_any _ _ _ _ hx (by omega)).mono ?_
    rintro _ _ ⟨rfl, rfl⟩
    go_wp2_with fail
    refine (refCheck13_any _ _ _ _ hy (by omega)).mono ?_
    rintro _ _ ⟨rfl, rfl⟩
    go_wp2
    go_ret
    exact ⟨ret_bool HN.out.symm, rfl⟩
  have e2 : (streamErr ys == 0) = true := by simp [he]
  have HE2 := Lib.hid he
  clear he
  have HS : Hid (askErr xs ys s = 0 ↔ 1 ≤ s ∧ s ≤ 256) := Lib.hid ⟨fun h => (askErr_zero h).2.2, fun h => by have h1 := HE.out; have h2 := HE2.out; simp [askErr, h1, h2]; omega⟩
  rcases (show (1 ≤ s ∧ s ≤ 256) ∨ s < 1 ∨ (1 ≤ s ∧ 256 < s) by omega) with h | h | h
  all_goals
    go_enter Try.func25, Try.ntmps25
    go_wp2_with (first | (go_at_call 10; refine (long13_any _ _ _ _).mono ?_; rintro e w' ⟨rfl, rfl⟩))
    refine (refCheck13_any _ _ _ _ hx (by omega)).mono ?_
    rintro _ _ ⟨rfl, rfl⟩
    go_wp2_with fail
    refine (refCheck13_any _ _ _ _ hy (by omega)).mono ?_
    rintro _ _ ⟨rfl, rfl⟩
    go_wp2
    go_ret
    exact ⟨ret_bool (by symm; simp [HS.out]; omega), rfl⟩
end Go.Proofs.Ytnejmgnbamajdaa
