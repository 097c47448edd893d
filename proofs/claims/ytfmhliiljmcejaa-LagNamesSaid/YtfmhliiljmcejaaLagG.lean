/-
  Contracts: fringeref16.ahead, fringeref16.Peak, lag.Peak.
-/
import Derived.Test.YtfmhliiljmcejaaLagF
namespace Go.Proofs.Ytfmhliiljmcejaa
open Go.RowKit
set_option linter.unusedVariables false

theorem sq_bd {a : Int} (h1 : -255 ≤ a) (h2 : a ≤ 255) : 0 ≤ a * a ∧ a * a ≤ 65025 := by
  rcases Int.le_total 0 a with h | h
  · exact ⟨Int.mul_nonneg h h, by have := Int.mul_le_mul h2 h2 h (by omega); omega⟩
  · have h3 : a * a = (-a) * (-a) := by rw [Int.neg_mul_neg]
    rw [h3]
    exact ⟨Int.mul_nonneg (by omega) (by omega), by have := Int.mul_le_mul (show -a ≤ 255 by omega) (show -a ≤ 255 by omega) (by omega) (by omega); omega⟩

def aheadB (l : List (Int × Int)) (i k : Nat) : Bool :=
  if (l.getD i (0, 0)).1 ≠ (l.getD k (0, 0)).1 then decide ((l.getD k (0, 0)).1 < (l.getD i (0, 0)).1)
  else if ((i : Int) - (l.length : Int) / 2) * ((i : Int) - (l.length : Int) / 2) ≠ ((k : Int) - (l.length : Int) / 2) * ((k : Int) - (l.length : Int) / 2) then
    decide (((i : Int) - (l.length : Int) / 2) * ((i : Int) - (l.length : Int) / 2) < ((k : Int) - (l.length : Int) / 2) * ((k : Int) - (l.length : Int) / 2))
  else decide (i < k)

theorem aheadB_1 {l : List (Int × Int)} {i k : Nat} (hi : i < l.length) (hk : k < l.length) (h : (l[i].1 != l[k].1) = true) : aheadB l i k = decide (l[k].1 < l[i].1) := by
  unfold aheadB
  rw [getD_lt _ _ hi, getD_lt _ _ hk, if_pos (by simpa using h)]
theorem aheadB_2 {l : List (Int × Int)} {i k : Nat} (hi : i < l.length) (hk : k < l.length) (h : (l[i].1 != l[k].1) = false) (h2 : (((i : Int) - (l.length : Int) / 2) * ((i : Int) - (l.length : Int) / 2) != ((k : Int) - (l.length : Int) / 2) * ((k : Int) - (l.length : Int) / 2)) = true) :
    aheadB l i k = decide (((i : Int) - (l.length : Int) / 2) * ((i : Int) - (l.length : Int) / 2) < ((k : Int) - (l.length : Int) / 2) * ((k : Int) - (l.length : Int) / 2)) := by
  unfold aheadB
  rw [getD_lt _ _ hi, getD_lt _ _ hk, if_neg (by simpa using h), if_pos (by simpa using h2)]
theorem aheadB_3 {l : List (Int × Int)} {i k : Nat} (hi : i < l.length) (hk : k < l.length) (h : (l[i].1 != l[k].1) = false) (h2 : (((i : Int) - (l.length : Int) / 2) * ((i : Int) - (l.length : Int) / 2) != ((k : Int) - (l.length : Int) / 2) * ((k : Int) - (l.length : Int) / 2)) = false) :
    aheadB l i k = decide (i < k) := by
  unfold aheadB
  rw [getD_lt _ _ hi, getD_lt _ _ hk, if_neg (by simpa using h), if_neg (by simpa using h2)]

theorem ahead_any (A : Option Addr) (c : Nat) (l : List (Int × Int)) (i k : Nat) (w : World) (hx : RL w A l) (hl : l.length ≤ 511) (hi : i < l.length) (hk : k < l.length) :
    Calls Try.prog 33 #[.slice A l.length c, .int .i64 i, .int .i64 k] w fun e w' => e = .returned (.bool (aheadB l i k)) ∧ ∃ n, w' = w.drewN n := by
  obtain ⟨b, off, rfl, _, hc1, _⟩ := hx.at_ hi
  obtain ⟨b', off', e, _, hd1, _⟩ := hx.at_ hk
  obtain ⟨rfl, rfl⟩ : b = b' ∧ off = off' := by injection e with e; injection e with e1 e2; exact ⟨e1, e2⟩
  clear e
  have q1 := sq_bd (a := (i : Int) - (l.length : Int) / 2) (by omega) (by omega)
  have q2 := sq_bd (a := (k : Int) - (l.length : Int) / 2) (by omega) (by omega)
  go_enter Try.func33, Try.ntmps33
  go_wp2
  go_quiet (fail)
  go_wp2
  · have hv : (l[i].1 != l[k].1) = true := by assumption
    go_quiet (fail)
    go_wp2
    go_ret
    exact ⟨ret_bool (aheadB_1 hi hk hv).symm, _, by first | rfl | rw [World.drewN_drewN]⟩
  · have hv : (l[i].1 != l[k].1) = false := by assumption
    have hv2 : (((i : Int) - (l.length : Int) / 2) * ((i : Int) - (l.length : Int) / 2) != ((k : Int) - (l.length : Int) / 2) * ((k : Int) - (l.length : Int) / 2)) = true := by assumption
    go_ret
    exact ⟨ret_bool (aheadB_2 hi hk hv hv2).symm, _, rfl⟩
  · have hv : (l[i].1 != l[k].1) = false := by assumption
    have hv2 : (((i : Int) - (l.length : Int) / 2) * ((i : Int) - (l.length : Int) / 2) != ((k : Int) - (l.length : Int) / 2) * ((k : Int) - (l.length : Int) / 2)) = false := by assumption
    go_ret
    refine ⟨ret_bool ?_, _, rfl⟩
    first
      | exact (aheadB_3 hi hk hv hv2).symm
      | exact (decide_eq_decide.2 (by omega)).trans (aheadB_3 hi hk hv hv2).symm

def bestIx (l : List (Int × Int)) : Nat → Nat
  | 0 => 0
  | k + 1 => if aheadB l k (bestIx l k) = true then k else bestIx l k
theorem bestIx_le (l : List (Int × Int)) (k : Nat) : bestIx l k = 0 ∨ bestIx l k < k := by
  induction k with
  | zero => exact .inl rfl
  | succ k ih =>
    unfold bestIx
    split
    · exact .inr (by omega)
    · omega
theorem bestIx_yes {l : List (Int × Int)} {k : Nat} (h : aheadB l k (bestIx l k) = true) : bestIx l (k + 1) = k := by rw [bestIx, if_pos h]
theorem bestIx_no {l : List (Int × Int)} {k : Nat} (h : aheadB l k (bestIx l k) = false) : bestIx l (k + 1) = bestIx l k := by rw [bestIx, if_neg (by simp [h])]
/-- What both Peaks answer. -/
def peakSpec (l : List (Int × Int)) : Int × Int :=
  if lagErr l ≠ 0 then (0, lagErr l) else if (sumP l).2 = 0 then (0, 18) else ((bestIx l l.length : Int) - (l.length : Int) / 2, 0)
theorem peak_err {l : List (Int × Int)} (h : ¬ lagErr l = 0) : peakSpec l = (0, lagErr l) := by simp [peakSpec, h]
theorem peak_zero {l : List (Int × Int)} (h : lagErr l = 0) (h2 : (sumP l).2 = 0) : peakSpec l = (0, 18) := by simp [peakSpec, h, h2]
theorem peak_ok {l : List (Int × Int)} (h : lagErr l = 0) (h2 : ¬ (sumP l).2 = 0) : peakSpec l = ((bestIx l l.length : Int) - (l.length : Int) / 2, 0) := by simp [peakSpec, h, h2]
theorem ret_pair {j k : IntKind} {a b : Int} {p : Int × Int} (h : p = (a, b)) : Ending.returned (.tuple #[.int j a, .int k b]) = .returned (.tuple #[.int j p.1, .int k p.2]) := by rw [h]

theorem refPeak_any (A : Option Addr) (c : Nat) (l : List (Int × Int)) (w : World) (hx : RL w A l) (hl : l.length ≤ 140737488355328) :
    Calls Try.prog 27 #[.slice A l.length c] w fun e w' => e = .returned (.tuple #[.int .i64 (peakSpec l).1, .int .i64 (peakSpec l).2]) ∧ Below w.heap.size w w' := by
  rcases (Decidable.em (lagErr l = 0)).symm with he | he
  · have e1 : (lagErr l != 0) = true := by simp [he]
    have HE := Lib.hid he
    clear he
    go_enter Try.func27, Try.ntmps27
    go_wp2_with fail
    refine (refCheck16_any _ _ _ _ hx hl).mono ?_
    rintro e w1 ⟨rfl, hb1⟩
    go_wp2_with fail
    refine (refCheck16_any _ _ _ _ (hx.keep hb1) hl).mono ?_
    rintro e w2 ⟨rfl, hb2⟩
    go_wp2
    go_ret2
    exact ⟨ret_pair (peak_err HE.out), hb1.trans (hb2.mono hb1.size)⟩
  have e1 : (lagErr l != 0) = false := by simp [he]
  have HE := Lib.hid he
  have hl5 := (lagErr_zero he).1
  have hl6 := (lagErr_zero he).2.1
  have hpos : 0 < l.length := by omega
  clear he hl6
  go_enter Try.func27, Try.ntmps27
  go_wp2_with fail
  refine (refCheck16_any _ _ _ _ hx hl).mono ?_
  rintro e w1 ⟨rfl, hb1⟩
  go_wp2
  go_loopg [4, 5, 6] l.length (fun gk n b i wr => ∃ k : Nat, k + gk = l.length ∧ i = .int .i64 k ∧ n = .int .i64 (sumP (l.take k)).2 ∧ b = .int .i64 (bestIx l k) ∧ ∃ q, wr = w1.drewN q)
  case atStart => exact ⟨0, by omega, rfl, rfl, rfl, 0, rfl⟩
  case round =>
    obtain ⟨k, hk, rfl, rfl, rfl, q, rfl⟩ := hrel
    have hk' : k ≤ l.length := by omega
    have HK := Lib.hid hk
    clear hk
    have hbd := sumP_bd (lagErr_zero HE.out).2.2 k hk'
    have hbi := bestIx_le l k
    have hbi2 : bestIx l k < l.length := by omega
    clear hbi
    by_cases hlt : k < l.length
    · obtain ⟨b, off, rfl, _, hc1, hc2⟩ := (hx.keep hb1).at_ hlt
      have hbx := okLag_bd ((lagErr_zero HE.out).2.2 _ (List.getElem_mem hlt))
      have hxq := (hx.keep hb1).keep (below_drewN (Below.refl _ _) q)
      go_wp2_with fail
      refine (ahead_any _ _ _ _ _ _ hxq hl5 hlt hbi2).mono ?_
      rintro e w2 ⟨rfl, q2, rfl⟩
      by_cases ha : aheadB l k (bestIx l k) = true
      · go_wp2
        go_roundg (gk - 1)
        case rel => exact ⟨k + 1, by have := HK.out; omega, by go_num, by rw [sumP_take hlt], by rw [bestIx_yes ha], q + q2, by first | rfl | rw [World.drewN_drewN]⟩
        case measure => have := HK.out; omega
      · have ha2 : aheadB l k (bestIx l k) = false := by simpa using ha
        go_wp2
        go_roundg (gk - 1)
        case rel => exact ⟨k + 1, by have := HK.out; omega, by go_num, by rw [sumP_take hlt], by rw [bestIx_no ha2], q + q2, by first | rfl | rw [World.drewN_drewN]⟩
        case measure => have := HK.out; omega
    · have hkl : l.length = k := by omega
      have h5 : l.take k = l := List.take_of_length_le (by omega)
      have HKL := Lib.hid hkl
      have H5 := Lib.hid h5
      clear hkl h5
      go_wp2
      · have hv : ((sumP (l.take k)).2 == 0) = true := by assumption
        go_ret2
        exact ⟨ret_pair (peak_zero HE.out (by rw [H5.out] at hv; simpa using hv)), below_drewN hb1 q⟩
      · have hv : ((sumP (l.take k)).2 == 0) = false := by assumption
        go_ret2
        refine ⟨ret_pair ?_, below_drewN hb1 q⟩
        rw [peak_ok HE.out (by rw [H5.out] at hv; simpa using hv), ← HKL.out]
end Go.Proofs.Ytfmhliiljmcejaa
