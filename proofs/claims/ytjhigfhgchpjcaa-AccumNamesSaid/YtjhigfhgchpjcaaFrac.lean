/-
  Contracts: frac.Make and fringeref01.Make, for numbers up to 10^18 and positive denominators.
-/
import Derived.Test.YtjhigfhgchpjcaaProg
import Derived.Test.YtjhigfhgchpjcaaGen
import Derived.Deep.QuietTactic
import Derived.BigQuiet
import Derived.Deep.LoopGhost
import Derived.Deep.RegionHeld3
import Derived.WalkSmall
import Derived.IntWalk
import Derived.Laws.Bits64b
namespace Go.Proofs.Ytjhigfhgchpjcaa
open Go.RowKit
set_option linter.unusedVariables false
set_option linter.unusedSimpArgs false
namespace Frac

theorem size_any (v : Int) (w : World) (h : -1000000000000000000 ≤ v ∧ v ≤ 1000000000000000000) :
    Calls Try.prog 55 #[.int .i64 v] w fun e w' => e = .returned (.int .u64 (v.natAbs : Int)) ∧ w = w' := by
  by_cases hv : v < 0
  · go_enter Try.func55, Try.ntmps55
    go_wp2
    go_ret
    refine ⟨ret_int ?_, rfl⟩
    rw [IntKind.wrap_u64, IntKind.wrap_u64]
    omega
  · go_enter Try.func55, Try.ntmps55
    go_wp2
    go_ret
    exact ⟨ret_int (by omega), rfl⟩
theorem abs_any (v : Int) (w : World) (h : -1000000000000000000 ≤ v ∧ v ≤ 1000000000000000000) :
    Calls Try.prog 48 #[.int .i64 v] w fun e w' => e = .returned (.int .u64 (v.natAbs : Int)) ∧ w = w' := by
  by_cases hv : v < 0
  · go_enter Try.func48, Try.ntmps48
    go_wp2
    · go_ret
      exact ⟨ret_int (by omega), rfl⟩
  · have hv' : 0 ≤ v := by omega
    go_enter Try.func48, Try.ntmps48
    go_wp2
    go_ret
    exact ⟨ret_int (by omega), rfl⟩
theorem gcd_any (a b : Nat) (w : World) (ha : a ≤ 1000000000000000000) (hb : b ≤ 1000000000000000000) :
    Calls Try.prog 56 #[.int .u64 a, .int .u64 b] w fun e w' => e = .returned (.int .u64 (Nat.gcd a b : Nat)) ∧ ∃ n, w' = w.drewN n := by
  go_enter Try.func56, Try.ntmps56
  go_wp2
  go_loopg [0, 1] b (fun gk A B wr => ∃ x : Nat, A = .int .u64 x ∧ B = .int .u64 gk ∧ x ≤ 1000000000000000000 ∧ gk ≤ 1000000000000000000 ∧ Hid (Nat.gcd x gk = Nat.gcd a b) ∧ ∃ n, wr = w.drewN n)
  case atStart => exact ⟨a, rfl, rfl, ha, hb, Lib.hid rfl, 0, rfl⟩
  case round =>
    obtain ⟨x, rfl, rfl, hx, hy, HG, n, rfl⟩ := hrel
    by_cases h0 : gk = 0
    · subst h0
      go_wp2
      go_ret
      exact ⟨ret_int (by rw [← HG.out, Nat.gcd_zero_right]), n, rfl⟩
    · have hlt : x % gk < gk := Nat.mod_lt _ (by omega)
      have h1 : ((gk : Int) != 0) = true := by rw [bne_iff_ne]; omega
      have h2 : ((gk : Int) == 0) = false := by rw [beq_eq_false_iff_ne]; omega
      have h3 : ¬ (gk : Int) = 0 := by omega
      have HM : Hid ((x : Int).tmod (gk : Int) = ((x % gk : Nat) : Int)) := Lib.hid (by rw [Int.tmod_eq_emod_of_nonneg (by omega)]; omega)
      have HG2 : Hid (Nat.gcd gk (x % gk) = Nat.gcd a b) := Lib.hid (by rw [← HG.out, Nat.gcd_comm x gk, Nat.gcd_rec gk x, Nat.gcd_comm])
      have hm : (x : Int) % (gk : Int) = ((x % gk : Nat) : Int) := by omega
      go_wp2
      go_quiet (fail)
      go_wp2
      go_roundg (x % gk)
      case rel => exact ⟨gk, rfl, by first | rfl | rw [HM.out] | go_num, by omega, by omega, HG2, by first | exact ⟨_, rfl⟩ | exact ⟨_, World.drewN_drewN _ _ _⟩⟩
      case measure => exact hlt
theorem gcdR_any (a b : Nat) (w : World) (ha : a ≤ 1000000000000000000) (hb : b ≤ 1000000000000000000) :
    Calls Try.prog 47 #[.int .u64 a, .int .u64 b] w fun e w' => e = .returned (.int .u64 (Nat.gcd a b : Nat)) ∧ ∃ n, w' = w.drewN n := by
  go_enter Try.func47, Try.ntmps47
  go_wp2
  go_loopg [0, 1] b (fun gk A B wr => ∃ x : Nat, A = .int .u64 x ∧ B = .int .u64 gk ∧ x ≤ 1000000000000000000 ∧ gk ≤ 1000000000000000000 ∧ Hid (Nat.gcd x gk = Nat.gcd a b) ∧ ∃ n, wr = w.drewN n)
  case atStart => exact ⟨a, rfl, rfl, ha, hb, Lib.hid rfl, 0, rfl⟩
  case round =>
    obtain ⟨x, rfl, rfl, hx, hy, HG, n, rfl⟩ := hrel
    by_cases h0 : gk = 0
    · subst h0
      go_wp2
      go_ret
      exact ⟨ret_int (by rw [← HG.out, Nat.gcd_zero_right]), n, rfl⟩
    · have hlt : x % gk < gk := Nat.mod_lt _ (by omega)
      have h1 : ((gk : Int) != 0) = true := by rw [bne_iff_ne]; omega
      have h2 : ((gk : Int) == 0) = false := by rw [beq_eq_false_iff_ne]; omega
      have h3 : ¬ (gk : Int) = 0 := by omega
      have HM : Hid ((x : Int).tmod (gk : Int) = ((x % gk : Nat) : Int)) := Lib.hid (by rw [Int.tmod_eq_emod_of_nonneg (by omega)]; omega)
      have HG2 : Hid (Nat.gcd gk (x % gk) = Nat.gcd a b) := Lib.hid (by rw [← HG.out, Nat.gcd_comm x gk, Nat.gcd_rec gk x, Nat.gcd_comm])
      have hm : (x : Int) % (gk : Int) = ((x % gk : Nat) : Int) := by omega
      go_wp2
      go_quiet (fail)
      go_wp2
      go_roundg (x % gk)
      case rel => exact ⟨gk, rfl, by first | rfl | rw [HM.out] | go_num, by omega, by omega, HG2, by first | exact ⟨_, rfl⟩ | exact ⟨_, World.drewN_drewN _ _ _⟩⟩
      case measure => exact hlt
def sgn (neg : Bool) (n : Nat) : Int := if neg then -(n : Int) else n
/-- A fraction and an error code. -/
def RetF (w : World) (r : (Int × Int) × Int) (e : Ending) (w' : World) : Prop := e = .returned (.tuple #[.agg #[.int .i64 r.1.1, .int .i64 r.1.2], .int .i64 r.2]) ∧ Below w.heap.size w w'
theorem build_any (neg : Bool) (n d : Nat) (w : World) (hn : n ≤ 1000000000000000000) (hd : d ≤ 1000000000000000000) :
    Calls Try.prog 57 #[.bool neg, .int .u64 n, .int .u64 d] w (RetF w ((sgn neg n, d), 0)) := by
  cases neg
  · go_enter Try.func57, Try.ntmps57
    go_wp2
    exact bodyPost_ret (v := .tuple #[.agg #[.int .i64 n, .int .i64 d], .int .i64 0]) (by simp [results, Try.results57, go_sem]) rfl ⟨by simp [sgn], by (repeat (first | with_reducible exact Below.refl _ _ | assumption | with_reducible refine below_drewN ?_ _ | with_reducible refine Below.drew ?_ | with_reducible refine balloc ?_ _ | (with_reducible refine Below.setCell ?_ ?_ _; rotate_left; focus (first | (simp; done) | (simp; omega) | omega))))⟩
  · go_enter Try.func57, Try.ntmps57
    go_wp2
    exact bodyPost_ret (v := .tuple #[.agg #[.int .i64 (-(n : Int)), .int .i64 d], .int .i64 0]) (by simp [results, Try.results57, go_sem]) rfl ⟨by simp [sgn], by (repeat (first | with_reducible exact Below.refl _ _ | assumption | with_reducible refine below_drewN ?_ _ | with_reducible refine Below.drew ?_ | with_reducible refine balloc ?_ _ | (with_reducible refine Below.setCell ?_ ?_ _; rotate_left; focus (first | (simp; done) | (simp; omega) | omega))))⟩
def frcS (s n : Int) : Int × Int := (sgn (decide (s < 0)) (s.natAbs / Nat.gcd s.natAbs n.natAbs), ((n.natAbs / Nat.gcd s.natAbs n.natAbs : Nat) : Int))
theorem uw {n : Nat} (h : n ≤ 1000000000000000000) : IntKind.u64.wrap (n : Int) = n := by rw [IntKind.wrap_u64]; omega
theorem udiv {x g : Nat} : (x : Int).tdiv (g : Int) = ((x / g : Nat) : Int) := by rw [Int.tdiv_eq_ediv_of_nonneg (by omega)]; omega
set_option maxHeartbeats 1000000 in
theorem make_any (s n : Int) (w : World) (hs : -1000000000000000000 ≤ s ∧ s ≤ 1000000000000000000) (hn : 1 ≤ n ∧ n ≤ 1000000000000000000) :
    Calls Try.prog 45 #[.int .i64 s, .int .i64 n] w (RetF w (frcS s n, 0)) := by
  have h0 : (n == 0) = false := by rw [beq_eq_false_iff_ne]; omega
  have hg : 0 < Nat.gcd s.natAbs n.natAbs := Nat.gcd_pos_of_pos_right _ (by omega)
  have hgl : Nat.gcd s.natAbs n.natAbs ≤ n.natAbs := Nat.gcd_le_right _ (by omega)
  have HF := Lib.hid (show frcS s n = (sgn (decide (s < 0)) (s.natAbs / Nat.gcd s.natAbs n.natAbs), ((n.natAbs / Nat.gcd s.natAbs n.natAbs : Nat) : Int)) from rfl)
  have hsn : s.natAbs ≤ 1000000000000000000 := by omega
  have hnn : n.natAbs ≤ 1000000000000000000 := by omega
  have hk := Blk.new w 49 #[.int .i64 0, .int .i64 0]
  go_enter Try.func45, Try.ntmps45
  go_wp2_with fail
  refine (size_any s _ hs).mono ?_
  rintro _ _ ⟨rfl, rfl⟩
  go_wp2_with fail
  refine (size_any n _ (by omega)).mono ?_
  rintro _ _ ⟨rfl, rfl⟩
  generalize s.natAbs = x at *
  generalize n.natAbs = y at *
  go_wp2_with fail
  refine (gcd_any x y _ hsn hnn).mono ?_
  rintro _ w1 ⟨rfl, nd, rfl⟩
  generalize Nat.gcd x y = g at *
  obtain ⟨X, hX⟩ : ∃ X : Nat, X = x / g := ⟨_, rfl⟩
  obtain ⟨Y, hY⟩ : ∃ Y : Nat, Y = y / g := ⟨_, rfl⟩
  have q1 : (x : Int) / (g : Int) = (X : Int) := by rw [hX]; omega
  have q2 : (y : Int) / (g : Int) = (Y : Int) := by rw [hY]; omega
  have q3 : X ≤ x := by rw [hX]; exact Nat.div_le_self _ _
  have q4 : Y ≤ y := by rw [hY]; exact Nat.div_le_self _ _
  have u1 : (x : Int).tdiv (g : Int) = (X : Int) := by rw [hX]; exact udiv
  have u2 : (y : Int).tdiv (g : Int) = (Y : Int) := by rw [hY]; exact udiv
  rw [← hX, ← hY] at HF
  clear hX hY
  have z1 : ((g : Int) == 0) = false := by rw [beq_eq_false_iff_ne]; omega
  have z2 : ¬ (g : Int) = 0 := by omega
  have z3 : ¬ g = 0 := by omega
  have d2 : decide (n < 0) = false := by simp; omega
  have hsd : decide (s < 0) = true ∨ decide (s < 0) = false := by cases decide (s < 0) <;> simp
  rcases hsd with d1 | d1
  · have HB := fun w => build_any true X Y w (by omega) (by omega)
    rw [d1] at HF
    have v1 : IntKind.u64.wrap ((x : Int) / (g : Int)) = (X : Int) := by rw [q1]; exact uw (Nat.le_trans q3 hsn)
    have v2 : IntKind.u64.wrap ((y : Int) / (g : Int)) = (Y : Int) := by rw [q2]; exact uw (Nat.le_trans q4 hnn)
    have v3 : IntKind.u64.wrap ((X : Int)) = (X : Int) := uw (Nat.le_trans q3 hsn)
    have v4 : IntKind.u64.wrap ((Y : Int)) = (Y : Int) := uw (Nat.le_trans q4 hnn)
    go_wp2
    have hkW : Blk ((w.alloc (.cells #[.int .i64 0, .int .i64 0] 49)).drewN nd) w.heap.size 49 #[.int .i64 0, .int .i64 0] := hk
    have hbE : Below w.heap.size w ((w.alloc (.cells #[.int .i64 0, .int .i64 0] 49)).drewN nd) := below_drewN (balloc (Below.refl _ _) _) _
    obtain ⟨wE, hwE⟩ : ∃ wE, wE = (w.alloc (.cells #[.int .i64 0, .int .i64 0] 49)).drewN nd := ⟨_, rfl⟩
    rw [← hwE] at hkW hbE ⊢
    clear hwE hk
    go_region_held3 (fun _ => True) (first | trivial | fail)
      ((first
        | (go_at_call 57; (with_reducible refine (HB wE.drew).mono ?_); rintro e w9 ⟨rfl, hb9'⟩; have hb9 : Below wE.heap.size wE w9 := bstep (Below.drew (Below.refl _ _)) hb9'; have hk9 := hkW.keep hb9; have k0 : w9.cell? ⟨w.heap.size, 0, none⟩ = some (.int .i64 0) := hk9.cell 0; have k1 : w9.cell? ⟨w.heap.size, 1, none⟩ = some (.int .i64 0) := hk9.cell 1; have kf0 := hk9.frozen 0; have kf1 := hk9.frozen 1; have kl := hk9.lt)
        | fail))
    all_goals go_wp2
    refine bodyPost_ret (v := .tuple #[.agg #[.int .i64 (sgn true X), .int .i64 (Y : Int)], .int .i64 0]) (by simp [results, Try.results45, go_sem, k0, k1, kf0, kf1, kl]) rfl ?_
    rw [HF.out]
    exact ⟨rfl, by have hB := bstep hbE hb9; (repeat (first | with_reducible exact Below.refl _ _ | assumption | with_reducible refine below_drewN ?_ _ | with_reducible refine Below.drew ?_ | with_reducible refine balloc ?_ _ | (with_reducible refine Below.setCell ?_ ?_ _; rotate_left; focus (first | (simp; done) | (simp; omega) | omega))))⟩
  · have HB := fun w => build_any false X Y w (by omega) (by omega)
    rw [d1] at HF
    have v1 : IntKind.u64.wrap ((x : Int) / (g : Int)) = (X : Int) := by rw [q1]; exact uw (Nat.le_trans q3 hsn)
    have v2 : IntKind.u64.wrap ((y : Int) / (g : Int)) = (Y : Int) := by rw [q2]; exact uw (Nat.le_trans q4 hnn)
    have v3 : IntKind.u64.wrap ((X : Int)) = (X : Int) := uw (Nat.le_trans q3 hsn)
    have v4 : IntKind.u64.wrap ((Y : Int)) = (Y : Int) := uw (Nat.le_trans q4 hnn)
    go_wp2
    have hkW : Blk ((w.alloc (.cells #[.int .i64 0, .int .i64 0] 49)).drewN nd) w.heap.size 49 #[.int .i64 0, .int .i64 0] := hk
    have hbE : Below w.heap.size w ((w.alloc (.cells #[.int .i64 0, .int .i64 0] 49)).drewN nd) := below_drewN (balloc (Below.refl _ _) _) _
    obtain ⟨wE, hwE⟩ : ∃ wE, wE = (w.alloc (.cells #[.int .i64 0, .int .i64 0] 49)).drewN nd := ⟨_, rfl⟩
    rw [← hwE] at hkW hbE ⊢
    clear hwE hk
    go_region_held3 (fun _ => True) (first | trivial | fail)
      ((first
        | (go_at_call 57; (with_reducible refine (HB wE.drew).mono ?_); rintro e w9 ⟨rfl, hb9'⟩; have hb9 : Below wE.heap.size wE w9 := bstep (Below.drew (Below.refl _ _)) hb9'; have hk9 := hkW.keep hb9; have k0 : w9.cell? ⟨w.heap.size, 0, none⟩ = some (.int .i64 0) := hk9.cell 0; have k1 : w9.cell? ⟨w.heap.size, 1, none⟩ = some (.int .i64 0) := hk9.cell 1; have kf0 := hk9.frozen 0; have kf1 := hk9.frozen 1; have kl := hk9.lt)
        | fail))
    all_goals go_wp2
    refine bodyPost_ret (v := .tuple #[.agg #[.int .i64 (sgn false X), .int .i64 (Y : Int)], .int .i64 0]) (by simp [results, Try.results45, go_sem, k0, k1, kf0, kf1, kl]) rfl ?_
    rw [HF.out]
    exact ⟨rfl, by have hB := bstep hbE hb9; (repeat (first | with_reducible exact Below.refl _ _ | assumption | with_reducible refine below_drewN ?_ _ | with_reducible refine Below.drew ?_ | with_reducible refine balloc ?_ _ | (with_reducible refine Below.setCell ?_ ?_ _; rotate_left; focus (first | (simp; done) | (simp; omega) | omega))))⟩
end Frac
end Go.Proofs.Ytjhigfhgchpjcaa
