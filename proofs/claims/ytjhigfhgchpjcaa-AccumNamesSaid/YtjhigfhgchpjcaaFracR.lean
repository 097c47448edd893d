/-
  Contract: fringeref01.Make, for numbers up to 10^18 and positive denominators.
-/
import Derived.Test.YtjhigfhgchpjcaaFrac
namespace Go.Proofs.Ytjhigfhgchpjcaa
open Go.RowKit
set_option linter.unusedVariables false
set_option linter.unusedSimpArgs false
namespace Frac

theorem lo_and (n : Nat) (h : n ≤ 1000000000000000000) : bits .and .u64 (n : Int) 4294967295 = ((n % 4294967296 : Nat) : Int) := by
  have := bits_and_u64_nat n 4294967295 (by omega) (by omega)
  rw [show ((4294967295 : Nat) : Int) = 4294967295 from rfl] at this
  rw [this]
  congr 1
  exact Nat.and_two_pow_sub_one_eq_mod n 32
theorem big_any (n : Nat) (w : World) (h : n ≤ 1000000000000000000) :
    Calls Try.prog 50 #[.int .u64 n] w fun e w' => e = .returned (.agg #[.int .u64 ((n % 4294967296 : Nat) : Int), .int .u64 ((n / 4294967296 : Nat) : Int), .int .u64 0, .int .u64 0]) ∧ Below w.heap.size w w' := by
  have HA := Lib.hid (lo_and n h)
  go_enter Try.func50, Try.ntmps50
  go_wp2
  rw [HA.out, show (n : Int) / 4294967296 = ((n / 4294967296 : Nat) : Int) by omega]
  exact bodyPost_ret (v := .agg #[.int .u64 ((n % 4294967296 : Nat) : Int), .int .u64 ((n / 4294967296 : Nat) : Int), .int .u64 0, .int .u64 0]) (by simp [results, Try.results50, go_sem]) rfl ⟨rfl, by (repeat (first | with_reducible exact Below.refl _ _ | assumption | with_reducible refine below_drewN ?_ _ | with_reducible refine Below.drew ?_ | with_reducible refine balloc ?_ _ | (with_reducible refine Below.setCell ?_ ?_ _; rotate_left; focus (first | (simp; done) | (simp; omega) | omega))))⟩
theorem or_lo (hi lo : Nat) (h1 : hi < 4294967296) (h2 : lo < 4294967296) : bits .or .u64 ((hi : Int) * 4294967296) (lo : Int) = ((hi * 4294967296 + lo : Nat) : Int) := by
  have := bits_or_u64_nat (hi * 4294967296) lo (by omega) (by omega)
  rw [show ((hi * 4294967296 : Nat) : Int) = (hi : Int) * 4294967296 by omega] at this
  rw [this]
  congr 1
  have := Nat.two_pow_add_eq_or_of_lt (i := 32) h2 hi
  rw [Nat.mul_comm hi]
  exact this.symm
theorem and_63 (n : Nat) (h : n ≤ 1000000000000000000) : bits .and .u64 (n : Int) 9223372036854775807 = (n : Int) := by
  have := bits_and_u64_nat n 9223372036854775807 (by omega) (by omega)
  rw [show ((9223372036854775807 : Nat) : Int) = 9223372036854775807 from rfl] at this
  rw [this]
  congr 1
  have h2 : n &&& 9223372036854775807 = n % 2 ^ 63 := Nat.and_two_pow_sub_one_eq_mod n 63
  rw [h2]
  exact Nat.mod_eq_of_lt (by omega)
theorem small_any (n hi lo : Nat) (w : World) (h : n ≤ 1000000000000000000) (hn : hi * 4294967296 + lo = n) (hl : lo < 4294967296) :
    Calls Try.prog 58 #[.agg #[.int .u64 lo, .int .u64 hi, .int .u64 0, .int .u64 0]] w fun e w' => e = .returned (.tuple #[.int .i64 n, .bool true]) ∧ Below w.heap.size w w' := by
  have HO := Lib.hid (or_lo hi lo (by omega) hl)
  have HA := Lib.hid (and_63 n h)
  rw [hn] at HO
  have hhi : hi ≤ 232830644 := by omega
  clear hn
  go_enter Try.func58, Try.ntmps58
  go_wp2
  have e1 : wrap64 (n : Int) = n := IntWalk.wrap64_in _ (by omega)
  have e2 : decide ((n : Int) ≤ 1000000000000000000) = true := by simp; omega
  rw [HO.out, HA.out, e1, e2]
  go_ret2
  exact ⟨rfl, by (repeat (first | with_reducible exact Below.refl _ _ | assumption | with_reducible refine below_drewN ?_ _ | with_reducible refine Below.drew ?_ | with_reducible refine balloc ?_ _ | (with_reducible refine Below.setCell ?_ ?_ _; rotate_left; focus (first | (simp; done) | (simp; omega) | omega))))⟩
set_option maxHeartbeats 1000000 in
theorem lowest_any (neg : Bool) (n h1 l1 d h2 l2 : Nat) (w : World) (hn : n ≤ 1000000000000000000) (hd : d ≤ 1000000000000000000) (e1 : h1 * 4294967296 + l1 = n) (b1 : l1 < 4294967296) (e2 : h2 * 4294967296 + l2 = d) (b2 : l2 < 4294967296) :
    Calls Try.prog 49 #[.bool neg, .agg #[.int .u64 l1, .int .u64 h1, .int .u64 0, .int .u64 0], .agg #[.int .u64 l2, .int .u64 h2, .int .u64 0, .int .u64 0]] w (RetF w ((sgn neg n, d), 0)) := by
  have HS1 := Lib.hid (fun w => small_any n h1 l1 w hn e1 b1)
  have HS2 := Lib.hid (fun w => small_any d h2 l2 w hd e2 b2)
  clear e1 e2 b1 b2
  obtain ⟨w0, hw0⟩ : ∃ w0, w0 = ((w.alloc (.cells #[.int .u64 l1, .int .u64 h1, .int .u64 0, .int .u64 0] 94)).alloc (.cells #[.int .u64 l2, .int .u64 h2, .int .u64 0, .int .u64 0] 94)).alloc (.cells #[.int .i64 0, .int .i64 0] 49) := ⟨_, rfl⟩
  have hbX : Below w.heap.size w w0 := by rw [hw0]; exact balloc (balloc (balloc (Below.refl _ _) _) _) _
  have hk1 : Blk w0 (w.heap.size + 1) 94 #[.int .u64 l2, .int .u64 h2, .int .u64 0, .int .u64 0] := by rw [hw0]; exact (Blk.newAt _ _ (by simp)).alloc _
  have hk2 : Blk w0 (w.heap.size + 2) 49 #[.int .i64 0, .int .i64 0] := by rw [hw0]; exact Blk.newAt _ _ (by simp)
  have HW := Lib.hid hw0
  clear hw0
  cases neg
  all_goals
    go_enter Try.func49, Try.ntmps49
    go_wp2_with fail
    refine (HS1.out _).mono ?_
    rintro _ w1 ⟨rfl, hb1⟩
    rw [← HW.out] at hb1
    have hB1 := bstep hbX hb1
    have hk1W := hk1.keep hb1
    have p0 : World.cell? w1 ⟨(w.heap.size + 1), 0, none⟩ = some (.int .u64 l2) := hk1W.cell 0
    have pf0 := hk1W.frozen 0
    have p1 : World.cell? w1 ⟨(w.heap.size + 1), 1, none⟩ = some (.int .u64 h2) := hk1W.cell 1
    have pf1 := hk1W.frozen 1
    have p2 : World.cell? w1 ⟨(w.heap.size + 1), 2, none⟩ = some (.int .u64 0) := hk1W.cell 2
    have pf2 := hk1W.frozen 2
    have p3 : World.cell? w1 ⟨(w.heap.size + 1), 3, none⟩ = some (.int .u64 0) := hk1W.cell 3
    have pf3 := hk1W.frozen 3
    have pfl := hk1W.lt
    go_wp2_with fail
    refine (HS2.out _).mono ?_
    rintro _ w2 ⟨rfl, hb2⟩
    have hB2 := bstep hB1 hb2
    have hk2W := (hk2.keep hb1).keep hb2
    have q0 : World.cell? w2 ⟨(w.heap.size + 2), 0, none⟩ = some (.int .i64 0) := hk2W.cell 0
    have f0 := hk2W.frozen 0
    have q1 : World.cell? w2 ⟨(w.heap.size + 2), 1, none⟩ = some (.int .i64 0) := hk2W.cell 1
    have f1 := hk2W.frozen 1
    have fl := hk2W.lt
    go_wp2
  · exact bodyPost_ret (v := .tuple #[.agg #[.int .i64 n, .int .i64 d], .int .i64 0]) (by simp [results, Try.results49, go_sem, q0, q1, f0, f1, fl]) rfl ⟨by simp [sgn], by (repeat (first | with_reducible exact Below.refl _ _ | assumption | with_reducible refine below_drewN ?_ _ | with_reducible refine Below.drew ?_ | with_reducible refine balloc ?_ _ | (with_reducible refine Below.setCell ?_ ?_ _; rotate_left; focus (first | (simp; done) | (simp; omega) | omega))))⟩
  · exact bodyPost_ret (v := .tuple #[.agg #[.int .i64 (-(n : Int)), .int .i64 d], .int .i64 0]) (by simp [results, Try.results49, go_sem, q0, q1, f0, f1, fl]) rfl ⟨by simp [sgn], by (repeat (first | with_reducible exact Below.refl _ _ | assumption | with_reducible refine below_drewN ?_ _ | with_reducible refine Below.drew ?_ | with_reducible refine balloc ?_ _ | (with_reducible refine Below.setCell ?_ ?_ _; rotate_left; focus (first | (simp; done) | (simp; omega) | omega))))⟩
set_option maxHeartbeats 1000000 in
theorem refMake_any (s n : Int) (w : World) (hs : -1000000000000000000 ≤ s ∧ s ≤ 1000000000000000000) (hn : 1 ≤ n ∧ n ≤ 1000000000000000000) :
    Calls Try.prog 32 #[.int .i64 s, .int .i64 n] w (RetF w (frcS s n, 0)) := by
  have h0 : (n == 0) = false := by rw [beq_eq_false_iff_ne]; omega
  have hg : 0 < Nat.gcd s.natAbs n.natAbs := Nat.gcd_pos_of_pos_right _ (by omega)
  have hgl : Nat.gcd s.natAbs n.natAbs ≤ n.natAbs := Nat.gcd_le_right _ (by omega)
  have HF := Lib.hid (show frcS s n = (sgn (decide (s < 0)) (s.natAbs / Nat.gcd s.natAbs n.natAbs), ((n.natAbs / Nat.gcd s.natAbs n.natAbs : Nat) : Int)) from rfl)
  have hsn : s.natAbs ≤ 1000000000000000000 := by omega
  have hnn : n.natAbs ≤ 1000000000000000000 := by omega
  have HAS := Lib.hid (fun w => abs_any s w hs)
  have HAN := Lib.hid (fun w => abs_any n w (by omega))
  have hk := Blk.new w 49 #[.int .i64 0, .int .i64 0]
  generalize s.natAbs = x at *
  generalize n.natAbs = y at *
  go_enter Try.func32, Try.ntmps32
  go_wp2_with fail
  refine (HAS.out _).mono ?_
  rintro _ _ ⟨rfl, rfl⟩
  go_wp2_with fail
  refine (HAN.out _).mono ?_
  rintro _ _ ⟨rfl, rfl⟩
  go_wp2_with fail
  refine (gcdR_any x y _ hsn hnn).mono ?_
  rintro _ w1 ⟨rfl, nd, rfl⟩
  generalize Nat.gcd x y = g at *
  obtain ⟨X, hX⟩ : ∃ X : Nat, X = x / g := ⟨_, rfl⟩
  obtain ⟨Y, hY⟩ : ∃ Y : Nat, Y = y / g := ⟨_, rfl⟩
  have q1 : (x : Int) / (g : Int) = (X : Int) := by rw [hX]; omega
  have q2 : (y : Int) / (g : Int) = (Y : Int) := by rw [hY]; omega
  have q3 : X ≤ x := by rw [hX]; exact Nat.div_le_self _ _
  have q4 : Y ≤ y := by rw [hY]; exact Nat.div_le_self _ _
  have u1 : (x : Int).tdiv (g : Int) = (X : Int) := by rw [hX]; exact udiv
  have u2 : (y : Int).tdiv (g : Int) = (Y : Int) := by rw [hY]; exact udiv
  rw [← hX, ← hY] at HF
  clear hX hY
  have z1 : ((g : Int) == 0) = false := by rw [beq_eq_false_iff_ne]; omega
  have z2 : ¬ (g : Int) = 0 := by omega
  have z3 : ¬ g = 0 := by omega
  have d2 : decide (n < 0) = false := by simp; omega
  have HBX := Lib.hid (fun w => big_any X w (by omega))
  have HBY := Lib.hid (fun w => big_any Y w (by omega))
  obtain ⟨h1, e1⟩ : ∃ h1 : Nat, h1 = X / 4294967296 := ⟨_, rfl⟩
  obtain ⟨l1, e2⟩ : ∃ l1 : Nat, l1 = X % 4294967296 := ⟨_, rfl⟩
  obtain ⟨h2, e3⟩ : ∃ h2 : Nat, h2 = Y / 4294967296 := ⟨_, rfl⟩
  obtain ⟨l2, e4⟩ : ∃ l2 : Nat, l2 = Y % 4294967296 := ⟨_, rfl⟩
  have f1 : h1 * 4294967296 + l1 = X := by rw [e1, e2]; exact Nat.div_add_mod' X 4294967296
  have f2 : l1 < 4294967296 := by rw [e2]; exact Nat.mod_lt _ (Nat.succ_pos _)
  have f3 : h2 * 4294967296 + l2 = Y := by rw [e3, e4]; exact Nat.div_add_mod' Y 4294967296
  have f4 : l2 < 4294967296 := by rw [e4]; exact Nat.mod_lt _ (Nat.succ_pos _)
  rw [← e1, ← e2] at HBX
  rw [← e3, ← e4] at HBY
  clear e1 e2 e3 e4
  have HLO := Lib.hid (fun neg w => lowest_any neg X h1 l1 Y h2 l2 w (by omega) (by omega) f1 f2 f3 f4)
  clear f1 f3
  have hsd : decide (s < 0) = true ∨ decide (s < 0) = false := by cases decide (s < 0) <;> simp
  have hkW : Blk ((w.alloc (.cells #[.int .i64 0, .int .i64 0] 49)).drewN nd) w.heap.size 49 #[.int .i64 0, .int .i64 0] := hk
  have hbE : Below w.heap.size w ((w.alloc (.cells #[.int .i64 0, .int .i64 0] 49)).drewN nd) := below_drewN (balloc (Below.refl _ _) _) _
  obtain ⟨wE, hwE⟩ : ∃ wE, wE = (w.alloc (.cells #[.int .i64 0, .int .i64 0] 49)).drewN nd := ⟨_, rfl⟩
  rw [← hwE] at hkW hbE ⊢
  clear hwE hk
  rcases hsd with d1 | d1
  · rw [d1] at HF
    go_wp2_with fail
    refine (HAS.out _).mono ?_
    rintro _ _ ⟨rfl, rfl⟩
    go_wp2_with fail
    refine (HBX.out _).mono ?_
    rintro _ w2 ⟨rfl, hb2⟩
    go_wp2_with fail
    refine (HAN.out _).mono ?_
    rintro _ _ ⟨rfl, rfl⟩
    go_wp2_with fail
    refine (HBY.out _).mono ?_
    rintro _ w3 ⟨rfl, hb3⟩
    go_wp2_with fail
    refine (HLO.out true _).mono ?_
    rintro _ w4 ⟨rfl, hb4⟩
    have hb34 := bstep (bstep hb2 hb3) hb4
    have hk9 := hkW.keep hb34
    have k0 : World.cell? w4 ⟨w.heap.size, 0, none⟩ = some (.int .i64 0) := hk9.cell 0
    have kf0 := hk9.frozen 0
    have k1 : World.cell? w4 ⟨w.heap.size, 1, none⟩ = some (.int .i64 0) := hk9.cell 1
    have kf1 := hk9.frozen 1
    have kfl := hk9.lt
    go_wp2
    refine bodyPost_ret (v := .tuple #[.agg #[.int .i64 (sgn true X), .int .i64 (Y : Int)], .int .i64 0]) (by simp [results, Try.results32, go_sem, k0, k1, kf0, kf1, kfl]) rfl ?_
    rw [HF.out]
    exact ⟨rfl, by have hB := bstep hbE hb34; (repeat (first | with_reducible exact Below.refl _ _ | assumption | with_reducible refine below_drewN ?_ _ | with_reducible refine Below.drew ?_ | with_reducible refine balloc ?_ _ | (with_reducible refine Below.setCell ?_ ?_ _; rotate_left; focus (first | (simp; done) | (simp; omega) | omega))))⟩
  · rw [d1] at HF
    go_wp2_with fail
    refine (HAS.out _).mono ?_
    rintro _ _ ⟨rfl, rfl⟩
    go_wp2_with fail
    refine (HBX.out _).mono ?_
    rintro _ w2 ⟨rfl, hb2⟩
    go_wp2_with fail
    refine (HAN.out _).mono ?_
    rintro _ _ ⟨rfl, rfl⟩
    go_wp2_with fail
    refine (HBY.out _).mono ?_
    rintro _ w3 ⟨rfl, hb3⟩
    go_wp2_with fail
    refine (HLO.out false _).mono ?_
    rintro _ w4 ⟨rfl, hb4⟩
    have hb34 := bstep (bstep hb2 hb3) hb4
    have hk9 := hkW.keep hb34
    have k0 : World.cell? w4 ⟨w.heap.size, 0, none⟩ = some (.int .i64 0) := hk9.cell 0
    have kf0 := hk9.frozen 0
    have k1 : World.cell? w4 ⟨w.heap.size, 1, none⟩ = some (.int .i64 0) := hk9.cell 1
    have kf1 := hk9.frozen 1
    have kfl := hk9.lt
    go_wp2
    refine bodyPost_ret (v := .tuple #[.agg #[.int .i64 (sgn false X), .int .i64 (Y : Int)], .int .i64 0]) (by simp [results, Try.results32, go_sem, k0, k1, kf0, kf1, kfl]) rfl ?_
    rw [HF.out]
    exact ⟨rfl, by have hB := bstep hbE hb34; (repeat (first | with_reducible exact Below.refl _ _ | assumption | with_reducible refine below_drewN ?_ _ | with_reducible refine Below.drew ?_ | with_reducible refine balloc ?_ _ | (with_reducible refine Below.setCell ?_ ?_ _; rotate_left; focus (first | (simp; done) | (simp; omega) | omega))))⟩
end Frac
end Go.Proofs.Ytjhigfhgchpjcaa
