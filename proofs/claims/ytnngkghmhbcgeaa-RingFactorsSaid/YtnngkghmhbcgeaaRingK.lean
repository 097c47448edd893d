/-
  The chapter's examples (alive). Printed in part by gen_ring.py.
-/
import Derived.Test.YtnngkghmhbcgeaaRingJ
namespace Go.Proofs.Ytnngkghmhbcgeaa
open Go.RowKit Num
set_option linter.unusedVariables false

theorem pr_tr {p F : Nat} (h2 : 2 ≤ p) (ht : tr p F = true) (hF : p < (F + 2) * (F + 2)) : Pr p :=
  pr_trial h2 (fun d hd hdd => tr_at ht hd (by
    apply Classical.byContradiction
    intro hc
    have := Nat.mul_le_mul (show F + 2 ≤ d by omega) (show F + 2 ≤ d by omega)
    omega))
theorem not_pr {p d : Nat} (h1 : 1 < d) (h2 : d < p) (h : p % d = 0) : ¬ Pr p := by
  intro hp
  rcases hp.2 d (Nat.dvd_of_mod_eq_zero h) with h3 | h3 <;> omega
theorem okP_yes {P : Nat} (h : Pr P) (h2 : P ≤ 2000000000) : okP (P : Int) = true := okP_iff.2 ⟨P, rfl, h.1, h2, h⟩
theorem okP_no {P : Nat} (h1 : 2 ≤ P) (h2 : P ≤ 2000000000) (h : ¬ Pr P) : okP (P : Int) = false := by rw [okP_nat h1 h2, primeB_false h]
theorem chk_yes {P : Nat} (h : Pr P) (h2 : P ≤ 2000000000) : chkE (P : Int) = 0 := by unfold chkE; rw [okP_yes h h2]; rfl
theorem chk_no {P : Nat} (h1 : 2 ≤ P) (h2 : P ≤ 2000000000) (h : ¬ Pr P) : chkE (P : Int) = 2 := by unfold chkE; rw [okP_no h1 h2 h]; rfl
theorem chk_out {p : Int} (h : ¬ (2 ≤ p ∧ p ≤ 2000000000)) : chkE p = 2 := by unfold chkE; rw [okP_out h]; rfl
theorem both_yes {P A : Nat} (h : Pr P) (h2 : P ≤ 2000000000) (hA : A < P) : bothE (P : Int) (A : Int) = 0 := by unfold bothE; rw [if_pos (okP_yes h h2), if_neg (by omega)]
theorem both_bad {P : Nat} {a : Int} (h : Pr P) (h2 : P ≤ 2000000000) (ha : a < 0 ∨ (P : Int) ≤ a) : bothE (P : Int) a = 8 := by unfold bothE; rw [if_pos (okP_yes h h2), if_pos ha]
theorem both_no {P : Nat} {a : Int} (h1 : 2 ≤ P) (h2 : P ≤ 2000000000) (h : ¬ Pr P) : bothE (P : Int) a = 2 := by unfold bothE; rw [okP_no h1 h2 h]; rfl
theorem pow_val {P A N r : Nat} (h : Pr P) (h2 : P ≤ 2000000000) (hA : A < P) (hr : A ^ N % P = r) : powS (P : Int) (A : Int) (N : Int) = ((r : Int), 0) := by
  unfold powS; rw [if_pos (both_yes h h2 hA), if_neg (by omega), Int.toNat_natCast, Int.toNat_natCast, Int.toNat_natCast, hr]
theorem pow_neg {P A : Nat} {n : Int} (h : Pr P) (h2 : P ≤ 2000000000) (hA : A < P) (hn : n < 0) : powS (P : Int) (A : Int) n = (0, 2) := by
  unfold powS; rw [if_pos (both_yes h h2 hA), if_pos hn]
theorem pow_bad {P : Nat} {a n : Int} (h : Pr P) (h2 : P ≤ 2000000000) (ha : a < 0 ∨ (P : Int) ≤ a) : powS (P : Int) a n = (0, 8) := by
  unfold powS; rw [both_bad h h2 ha]; rfl
theorem badpow {P : Nat} {a n : Int} (h1 : 2 ≤ P) (h2 : P ≤ 2000000000) (h : ¬ Pr P) : powS (P : Int) a n = (0, 2) := by
  unfold powS; rw [both_no h1 h2 h]; rfl
theorem inv_val {P A r : Nat} (h : Pr P) (h2 : P ≤ 2000000000) (hA : A < P) (hA0 : 0 < A) (hr : A ^ (P - 2) % P = r) : invS (P : Int) (A : Int) = ((r : Int), 0) := by
  unfold invS; rw [if_pos (both_yes h h2 hA), if_neg (by omega), Int.toNat_natCast, Int.toNat_natCast, hr]
theorem inv_zero {P : Nat} (h : Pr P) (h2 : P ≤ 2000000000) : invS (P : Int) 0 = (0, 18) := by
  unfold invS; rw [show bothE (P : Int) 0 = 0 from both_yes (A := 0) h h2 (by have := h.1; omega)]; rfl
theorem ord_val {P A r : Nat} (h : Pr P) (h2 : P ≤ 2000000000) (hA : A < P) (hA0 : 0 < A) (hr : ordN P A = r) : ordS (P : Int) (A : Int) = ((r : Int), 0) := by
  unfold ordS; rw [if_pos (both_yes h h2 hA), if_neg (by omega), Int.toNat_natCast, Int.toNat_natCast, hr]
theorem ord_zero {P : Nat} (h : Pr P) (h2 : P ≤ 2000000000) : ordS (P : Int) 0 = (0, 18) := by
  unfold ordS; rw [show bothE (P : Int) 0 = 0 from both_yes (A := 0) h h2 (by have := h.1; omega)]; rfl
theorem ord_bad {P : Nat} {a : Int} (h : Pr P) (h2 : P ≤ 2000000000) (ha : a < 0 ∨ (P : Int) ≤ a) : ordS (P : Int) a = (0, 8) := by
  unfold ordS; rw [both_bad h h2 ha]; rfl
theorem gen_val {P r : Nat} (h : Pr P) (h2 : P ≤ 2000000000) (hr : genN P = r) : genS (P : Int) = ((r : Int), 0) := by
  unfold genS; rw [if_pos (okP_yes h h2), Int.toNat_natCast, hr]
theorem root_val {P N r : Nat} (h : Pr P) (h2 : P ≤ 2000000000) (hN : 1 ≤ N) (hd : (P - 1) % N = 0) (hr : rootN P N = r) : rootS (P : Int) (N : Int) = ((r : Int), 0) := by
  unfold rootS
  rw [if_pos (okP_yes h h2), if_neg (by omega), if_neg (by rw [show (P : Int) - 1 = ((P - 1 : Nat) : Int) by have := h.1; omega, ← Int.natCast_emod, hd]; simp), Int.toNat_natCast, Int.toNat_natCast, hr]
theorem root_none {P : Nat} {n : Int} (h : Pr P) (h2 : P ≤ 2000000000) (hN : 1 ≤ n) (hd : ((P : Int) - 1) % n ≠ 0) : rootS (P : Int) n = (0, 6) := by
  unfold rootS
  rw [if_pos (okP_yes h h2), if_neg (by omega), if_pos hd]
theorem root_arg {P : Nat} {n : Int} (h : Pr P) (h2 : P ≤ 2000000000) (hN : n < 1) : rootS (P : Int) n = (0, 2) := by
  unfold rootS
  rw [if_pos (okP_yes h h2), if_pos hN]
theorem badroo {P : Nat} {n : Int} (h1 : 2 ≤ P) (h2 : P ≤ 2000000000) (h : ¬ Pr P) : rootS (P : Int) n = (0, 2) := by
  unfold rootS; rw [okP_no h1 h2 h]; rfl

theorem ringPow_at (p a n x y : Int) (h : powS p a n = (x, y)) (w : World) (hp1 : -9223372036854775808 ≤ p) (hp2 : p ≤ 9223372036854775807) (hn2 : n ≤ 9223372036854775807) :
    Calls Try.prog 10 #[.int .i64 p, .int .i64 a, .int .i64 n] w fun e w' => e = .returned (.tuple #[.int .i64 x, .int .i64 y]) ∧ Below w.heap.size w w' := by
  have := ringPow_any p a n w hp1 hp2 hn2; rw [h] at this; exact this
theorem ringInv_at (p a x y : Int) (h : invS p a = (x, y)) (w : World) (hp1 : -9223372036854775808 ≤ p) (hp2 : p ≤ 9223372036854775807) :
    Calls Try.prog 12 #[.int .i64 p, .int .i64 a] w fun e w' => e = .returned (.tuple #[.int .i64 x, .int .i64 y]) ∧ Below w.heap.size w w' := by
  have := ringInv_any p a w hp1 hp2; rw [h] at this; exact this
theorem ringOrder_at (p a x y : Int) (h : ordS p a = (x, y)) (w : World) (hp1 : -9223372036854775808 ≤ p) (hp2 : p ≤ 9223372036854775807) :
    Calls Try.prog 18 #[.int .i64 p, .int .i64 a] w fun e w' => e = .returned (.tuple #[.int .i64 x, .int .i64 y]) ∧ Below w.heap.size w w' := by
  have := ringOrder_any p a w hp1 hp2; rw [h] at this; exact this
theorem ringGen_at (p x y : Int) (h : genS p = (x, y)) (w : World) (hp1 : -9223372036854775808 ≤ p) (hp2 : p ≤ 9223372036854775807) :
    Calls Try.prog 20 #[.int .i64 p] w fun e w' => e = .returned (.tuple #[.int .i64 x, .int .i64 y]) ∧ Below w.heap.size w w' := by
  have := ringGen_any p w hp1 hp2; rw [h] at this; exact this
theorem ringRoot_at (p n x y : Int) (h : rootS p n = (x, y)) (w : World) (hp1 : -9223372036854775808 ≤ p) (hp2 : p ≤ 9223372036854775807) (hn2 : n ≤ 9223372036854775807) :
    Calls Try.prog 22 #[.int .i64 p, .int .i64 n] w fun e w' => e = .returned (.tuple #[.int .i64 x, .int .i64 y]) ∧ Below w.heap.size w w' := by
  have := ringRoot_any p n w hp1 hp2 hn2; rw [h] at this; exact this
theorem ringCheck_at (p x : Int) (h : chkE p = x) (w : World) (hp1 : -9223372036854775808 ≤ p) (hp2 : p ≤ 9223372036854775807) :
    Calls Try.prog 14 #[.int .i64 p] w fun e w' => e = .returned (.int .i64 x) ∧ Below w.heap.size w w' := by
  have := ringCheck_any p w hp1 hp2; rw [h] at this; exact this
theorem ringFacs_at (n : Int) (l : List Int) (y : Int) (h : facS n = (l, y)) (w : World) (hp1 : -9223372036854775808 ≤ n) (hp2 : n ≤ 9223372036854775807) :
    Calls Try.prog 16 #[.int .i64 n] w fun e w' => ∃ A c, e = .returned (.tuple #[.slice A l.length c, .int .i64 y]) ∧ RI .i64 w' A l ∧ Below w.heap.size w w' := by
  have := ringFacs_any n w hp1 hp2; rw [h] at this; exact this
theorem is_yes (x : Int) (w : World) : Calls Try.prog 28 #[.int .i64 x, .int .i64 0, .int .i64 x] w fun e w' => e = .returned (.bool true) ∧ w = w' := by
  have h : (x == x) = true := beq_self_eq_true x
  go_enter Try.func28, Try.ntmps28
  go_wp2
  go_ret
  exact ⟨by simp, rfl⟩

theorem pr_2 : Pr 2 := pr_tr (F := 0) (by omega) (by decide) (by omega)
theorem pr_3 : Pr 3 := pr_tr (F := 0) (by omega) (by decide) (by omega)
theorem pr_5 : Pr 5 := pr_tr (F := 1) (by omega) (by decide) (by omega)
theorem pr_7 : Pr 7 := pr_tr (F := 1) (by omega) (by decide) (by omega)
theorem pr_17 : Pr 17 := pr_tr (F := 3) (by omega) (by decide) (by omega)
theorem facs_6 : facs 6 = [2, 3] := facs_eq ⟨by decide, by intro x hx; simp only [List.mem_cons, List.not_mem_nil, or_false] at hx; rcases hx with rfl | rfl <;> first  | exact pr_2 | exact pr_3, by decide⟩
theorem facs_16 : facs 16 = [2, 2, 2, 2] := facs_eq ⟨by decide, by intro x hx; simp only [List.mem_cons, List.not_mem_nil, or_false] at hx; rcases hx with rfl | rfl | rfl | rfl <;> first  | exact pr_2, by decide⟩
theorem facs_360 : facs 360 = [2, 2, 2, 3, 3, 5] := facs_eq ⟨by decide, by intro x hx; simp only [List.mem_cons, List.not_mem_nil, or_false] at hx; rcases hx with rfl | rfl | rfl | rfl | rfl | rfl <;> first  | exact pr_2 | exact pr_3 | exact pr_5, by decide⟩
theorem gn_7 : genN 7 = 3 := gen_at pr_7 (by omega) (by omega) (by unfold Gen; rw [facs_6]; decide) (by intro m h1 h2; unfold Gen; rw [facs_6]; rcases (show m = 1 ∨ m = 2 by omega) with rfl | rfl <;> decide)
theorem gn_17 : genN 17 = 3 := gen_at pr_17 (by omega) (by omega) (by unfold Gen; rw [facs_16]; decide) (by intro m h1 h2; unfold Gen; rw [facs_16]; rcases (show m = 1 ∨ m = 2 by omega) with rfl | rfl <;> decide)
theorem vInv_7_3 : invS 7 3 = (5, 0) := inv_val (P := 7) (A := 3) pr_7 (by omega) (by omega) (by omega) (by decide)
theorem vOrder_7_2 : ordS 7 2 = (3, 0) := ord_val (P := 7) (A := 2) pr_7 (by omega) (by omega) (by omega) (by unfold ordN; rw [facs_6]; decide)
theorem vGen_7 : genS 7 = (3, 0) := gen_val (P := 7) pr_7 (by omega) gn_7
theorem vRoot_7_2 : rootS 7 2 = (6, 0) := root_val (P := 7) (N := 2) pr_7 (by omega) (by omega) (by decide) (by unfold rootN; rw [gn_7])
theorem vRoot_7_3 : rootS 7 3 = (2, 0) := root_val (P := 7) (N := 3) pr_7 (by omega) (by omega) (by decide) (by unfold rootN; rw [gn_7])
theorem vRoot_7_4 : rootS 7 4 = (0, 6) := root_none (P := 7) pr_7 (by omega) (by omega) (by decide)
theorem vGen_17 : genS 17 = (3, 0) := gen_val (P := 17) pr_17 (by omega) gn_17
theorem vRoot_17_16 : rootS 17 16 = (3, 0) := root_val (P := 17) (N := 16) pr_17 (by omega) (by omega) (by decide) (by unfold rootN; rw [gn_17])
theorem vRoot_17_4 : rootS 17 4 = (13, 0) := root_val (P := 17) (N := 4) pr_17 (by omega) (by omega) (by decide) (by unfold rootN; rw [gn_17])
theorem vFac_360 : facS 360 = ([2, 2, 2, 3, 3, 5], 0) := (facS_in (N := 360) (by omega) (by omega)).trans (by rw [facs_360]; rfl)
set_option maxHeartbeats 2000000 in
theorem alive10_any (w : World) : Calls Try.prog 26 #[] w fun e w' => e = .returned (.bool true) ∧ Below w.heap.size w w' := by
  go_enter Try.func26, Try.ntmps26
  go_wp2_with fail
  refine (ringInv_at 7 3 5 0 vInv_7_3 _ (by omega) (by omega)).mono ?_
  rintro _ w1 ⟨rfl, hb1⟩
  have hB1 := hb1
  clear hb1
  go_wp2_with fail
  refine (ringOrder_at 7 2 3 0 vOrder_7_2 _ (by omega) (by omega)).mono ?_
  rintro _ w2 ⟨rfl, hb2⟩
  have hB2 := bstep hB1 hb2
  clear hB1 hb2
  go_wp2_with fail
  refine (ringGen_at 7 3 0 vGen_7 _ (by omega) (by omega)).mono ?_
  rintro _ w3 ⟨rfl, hb3⟩
  have hB3 := bstep hB2 hb3
  clear hB2 hb3
  go_wp2_with fail
  refine (ringRoot_at 7 2 6 0 vRoot_7_2 _ (by omega) (by omega) (by omega)).mono ?_
  rintro _ w4 ⟨rfl, hb4⟩
  have hB4 := bstep hB3 hb4
  clear hB3 hb4
  go_wp2_with fail
  refine (ringRoot_at 7 3 2 0 vRoot_7_3 _ (by omega) (by omega) (by omega)).mono ?_
  rintro _ w5 ⟨rfl, hb5⟩
  have hB5 := bstep hB4 hb5
  clear hB4 hb5
  go_wp2_with fail
  refine (ringRoot_at 7 4 0 6 vRoot_7_4 _ (by omega) (by omega) (by omega)).mono ?_
  rintro _ w6 ⟨rfl, hb6⟩
  have hB6 := bstep hB5 hb6
  clear hB5 hb6
  go_wp2_with fail
  refine (ringGen_at 17 3 0 vGen_17 _ (by omega) (by omega)).mono ?_
  rintro _ w7 ⟨rfl, hb7⟩
  have hB7 := bstep hB6 hb7
  clear hB6 hb7
  go_wp2_with fail
  refine (ringRoot_at 17 16 3 0 vRoot_17_16 _ (by omega) (by omega) (by omega)).mono ?_
  rintro _ w8 ⟨rfl, hb8⟩
  have hB8 := bstep hB7 hb8
  clear hB7 hb8
  go_wp2_with fail
  refine (ringRoot_at 17 4 13 0 vRoot_17_4 _ (by omega) (by omega) (by omega)).mono ?_
  rintro _ w9 ⟨rfl, hb9⟩
  have hB9 := bstep hB8 hb9
  clear hB8 hb9
  go_wp2_with fail
  refine (ringFacs_at 360 [2, 2, 2, 3, 3, 5] 0 vFac_360 _ (by omega) (by omega)).mono ?_
  rintro _ w10 ⟨A10, c10, rfl, r10, hb10⟩
  have hB10 := bstep hB9 hb10
  clear hB9 hb10
  have rf := r10
  clear r10
  go_wp2_with fail
  refine (is_yes 5 _).mono ?_
  rintro _ _ ⟨rfl, rfl⟩
  go_wp2_with fail
  refine (is_yes 3 _).mono ?_
  rintro _ _ ⟨rfl, rfl⟩
  go_wp2_with fail
  refine (is_yes 3 _).mono ?_
  rintro _ _ ⟨rfl, rfl⟩
  go_wp2_with fail
  refine (is_yes 6 _).mono ?_
  rintro _ _ ⟨rfl, rfl⟩
  go_wp2_with fail
  refine (is_yes 2 _).mono ?_
  rintro _ _ ⟨rfl, rfl⟩
  go_wp2_with fail
  refine (is_yes 3 _).mono ?_
  rintro _ _ ⟨rfl, rfl⟩
  go_wp2_with fail
  refine (is_yes 3 _).mono ?_
  rintro _ _ ⟨rfl, rfl⟩
  go_wp2_with fail
  refine (is_yes 13 _).mono ?_
  rintro _ _ ⟨rfl, rfl⟩
  have hb90 := balloc hB10 (.cells #[.int .i64 2, .int .i64 2, .int .i64 2, .int .i64 3, .int .i64 3, .int .i64 5] 2)
  have rl := RI_lit' (W := w10.alloc (.cells #[.int .i64 2, .int .i64 2, .int .i64 2, .int .i64 3, .int .i64 3, .int .i64 5] 2)) (t := 2) (k := .i64) [2, 2, 2, 3, 3, 5] _ rfl (Blk.new w10 2 _) rfl
  have rk := rf.keep (balloc (Below.refl _ _) (.cells #[.int .i64 2, .int .i64 2, .int .i64 2, .int .i64 3, .int .i64 3, .int .i64 5] 2))
  go_wp2_with fail
  refine (same10_any _ _ _ _ _ _ _ rk rl (by decide) (by decide)).mono ?_
  rintro _ w90 ⟨rfl, q9, rfl⟩
  go_wp2
  go_ret
  exact ⟨ret_bool (by decide), below_drewN hb90 _⟩
end Go.Proofs.Ytnngkghmhbcgeaa
