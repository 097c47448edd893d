/-
  Parts of the proof of TopCorrelate: TpI TpD TsG.
-/
import Derived.Test.YtelkokcnedbmeaaGreatT21
import Derived.Test.YtelkokcnedbmeaaGreatT02
import Derived.Test.YtelkokcnedbmeaaGreatT06
import Derived.Test.YtelkokcnedbmeaaGreatT35
namespace Go.Proofs.YtelkokcnedbmeaaGreat
open Go.RowKit
set_option maxRecDepth 20000
set_option linter.unusedVariables false
set_option linter.unusedSimpArgs false
namespace Smp
open Lagw
def lvl (xs : List Int) : Prop := xs.length ≤ 256 ∧ ∀ x ∈ xs, -1000000 ≤ x ∧ x ≤ 1000000
set_option maxRecDepth 20000 in
set_option maxHeartbeats 4000000 in
theorem measured_any (A : Option Addr) (c : Nat) (xs : List Int) (w : World) (hx : RI .i64 w A xs) (hl : lvl xs) :
 Calls Tryz.prog 42 #[.slice A xs.length c] w fun e w' => e = .returned (.int .i64 0) ∧ w = w' := by
 obtain ⟨hl1, hl2⟩ := hl
 have HL := Lib.hid hl2
 have dm : decide (256 < (xs.length : Int)) = false := by simp; omega
 clear hl2
 go_enter Tryz.func42, Tryz.ntmps42
 go_wp2
 go_loopg [4, 10] xs.length (fun gk _ i wr => ∃ k : Nat, k + gk = xs.length ∧ i = .int .i64 k ∧ wr = w)
 case atStart => exact ⟨0, by omega, rfl, rfl⟩
 case round =>
  obtain ⟨k, hk, rfl, rfl⟩ := hrel
  have HK := Lib.hid hk
  have hk' : k ≤ xs.length := by omega
  clear hk
  by_cases hlt : k < xs.length
  ·obtain ⟨b, off, rfl, hlw, hcw⟩ := hx.at2 hlt
   rw [getD_lt _ _ hlt] at hcw
   have hb := HL.out _ (List.getElem_mem hlt)
   generalize xs[k] = x at *
   obtain ⟨h1, h2⟩ := hb
   go_wp2
   all_goals
    go_roundg (gk - 1)
    case rel => exact ⟨k + 1, by have := HK.out; omega, by go_num, rfl⟩
    case measure => have := HK.out; omega
  ·go_wp2
   go_ret
   exact ⟨rfl, rfl⟩
set_option maxRecDepth 20000 in
set_option maxHeartbeats 4000000 in
theorem take_any (A : Option Addr) (c : Nat) (xs : List Int) (t : Int) (w : World) (hx : RI .i64 w A xs) (hl : lvl xs) (t1 : 1 ≤ t) (t2 : t ≤ 1000000) :
 Calls Tryz.prog 17 #[.slice A xs.length c, .int .i64 t] w fun e w' => ∃ g, e = .returned (.tuple #[.slice (some ⟨g, 0, none⟩) xs.length xs.length, .int .i64 0]) ∧ RI .i64 w' (some ⟨g, 0, none⟩) (fullL (fun i => takeF t (xs.getD i 0)) xs.length) ∧ Below w.heap.size w w' := by
 have HL := Lib.hid hl
 have hl5 := hl.1
 clear hl
 obtain ⟨i0, hi0, hz0, hz1, hz2⟩ := info_parts info_intS
 have hmk := mk_row (P := Tryz.prog) 22 3 Tryz.underlying22 hi0 hz0 hz1 hz2 (encI .i64) (encI_len .i64) (by omega) 0 rfl xs.length (by omega) (by omega)
 go_enter Tryz.func17, Tryz.ntmps17
 go_wp2_with fail
 refine (measured_any _ _ _ _ hx HL.out).mono ?_
 rintro e w' ⟨rfl, rfl⟩
 go_wp2
 go_loopg [8, 9, 26] xs.length (fun gk _ _ i wr => ∃ k : Nat, k + gk = xs.length ∧ i = .int .i64 k ∧ Blk wr w.heap.size 3 ((partL (fun i => takeF t (xs.getD i 0)) 0 xs.length k).flatMap (encI .i64)).toArray ∧ Below w.heap.size w wr)
 case atStart => exact ⟨0, by omega, rfl, by rw [partL_start]; exact Blk.new w _ _, balloc (Below.refl _ _) _⟩
 case round =>
  obtain ⟨k, hk, rfl, hO, hb⟩ := hrel
  have HK := Lib.hid hk
  have hk' : k ≤ xs.length := by omega
  clear hk hmk
  obtain ⟨w5, rfl⟩ : ∃ w5, w5 = wr := ⟨_, rfl⟩
  by_cases hlt : k < xs.length
  ·obtain ⟨b, off, rfl, hlw, hcw⟩ := hx.at2 hlt
   rw [getD_lt _ _ hlt] at hcw
   have hc := (hb.cell (p := ⟨b, _, none⟩) hlw).trans hcw
   have hbd := HL.out.2 _ (List.getElem_mem hlt)
   have HF : Hid ((partL (fun i => takeF t (xs.getD i 0)) 0 xs.length k).set k (takeF t xs[k]) = partL (fun i => takeF t (xs.getD i 0)) 0 xs.length (k + 1)) := Lib.hid (partL_set _ _ _ _ _ (by rw [getD_lt _ _ hlt]))
   have hne : ¬ b = w.heap.size := by omega
   generalize xs[k] = x at *
   obtain ⟨h1, h2⟩ := hbd
   have o0 := blkI_at hO (j := k) (by rw [partL_len]; exact hlt)
   have of0 := hO.frozen k
   have og := hO.lt
   generalize hP : partL (fun i => takeF t (xs.getD i 0)) 0 xs.length k = P at *
   have hPl : P.length = xs.length := by rw [← hP]; exact partL_len _ _ _ _
   clear hP
   have HS : Hid (∀ v, Blk (w5.setCell ⟨w.heap.size, k, none⟩ (.int .i64 v)) w.heap.size 3 ((P.set k v).flatMap (encI .i64)).toArray) := Lib.hid (fun v => blkI_set hO (by rw [hPl]; exact hlt) v)
   have HS2 : Hid (∀ u v, Blk ((w5.setCell ⟨w.heap.size, k, none⟩ (.int .i64 u)).setCell ⟨w.heap.size, k, none⟩ (.int .i64 v)) w.heap.size 3 ((P.set k v).flatMap (encI .i64)).toArray) := Lib.hid (fun u v => by have := blkI_set (HS.out u) (j := k) (by rw [List.length_set, hPl]; exact hlt) v; rwa [List.set_set] at this)
   have HS3 : Hid (∀ s u v, Blk (((w5.setCell ⟨w.heap.size, k, none⟩ (.int .i64 s)).setCell ⟨w.heap.size, k, none⟩ (.int .i64 u)).setCell ⟨w.heap.size, k, none⟩ (.int .i64 v)) w.heap.size 3 ((P.set k v).flatMap (encI .i64)).toArray) := Lib.hid (fun s u v => by have := blkI_set (HS2.out s u) (j := k) (by rw [List.length_set, hPl]; exact hlt) v; rwa [List.set_set] at this)
   rcases (show (takeF t x = -3 ∧ x < 0 ∧ t ≤ -x) ∨ (takeF t x = -1 ∧ x < 0 ∧ -x < t) ∨ (takeF t x = 3 ∧ 0 ≤ x ∧ t ≤ x) ∨ (takeF t x = 1 ∧ 0 ≤ x ∧ x < t) by unfold takeF; repeat' split; all_goals omega) with hX | hX | hX | hX
   ·obtain ⟨hX, c1, c2⟩ := hX
    have HX := Lib.hid hX
    clear hX
    go_wp2
    all_goals
     go_roundg (gk - 1)
     case rel => exact ⟨k + 1, by have := HK.out; omega, by go_num, by rw [← HF.out, HX.out]; exact HS3.out 1 3 (-3), (((hb.setCell (p := ⟨w.heap.size, k, none⟩) (Nat.le_refl _) _).setCell (p := ⟨w.heap.size, k, none⟩) (Nat.le_refl _) _).setCell (p := ⟨w.heap.size, k, none⟩) (Nat.le_refl _) _)⟩
     case measure => have := HK.out; omega
   ·obtain ⟨hX, c1, c2⟩ := hX
    have HX := Lib.hid hX
    clear hX
    go_wp2
    all_goals
     go_roundg (gk - 1)
     case rel => exact ⟨k + 1, by have := HK.out; omega, by go_num, by rw [← HF.out, HX.out]; exact HS2.out 1 (-1), ((hb.setCell (p := ⟨w.heap.size, k, none⟩) (Nat.le_refl _) _).setCell (p := ⟨w.heap.size, k, none⟩) (Nat.le_refl _) _)⟩
     case measure => have := HK.out; omega
   ·obtain ⟨hX, c1, c2⟩ := hX
    have HX := Lib.hid hX
    clear hX
    go_wp2
    all_goals
     go_roundg (gk - 1)
     case rel => exact ⟨k + 1, by have := HK.out; omega, by go_num, by rw [← HF.out, HX.out]; exact HS2.out 1 3, ((hb.setCell (p := ⟨w.heap.size, k, none⟩) (Nat.le_refl _) _).setCell (p := ⟨w.heap.size, k, none⟩) (Nat.le_refl _) _)⟩
     case measure => have := HK.out; omega
   ·obtain ⟨hX, c1, c2⟩ := hX
    have HX := Lib.hid hX
    clear hX
    go_wp2
    all_goals
     go_roundg (gk - 1)
     case rel => exact ⟨k + 1, by have := HK.out; omega, by go_num, by rw [← HF.out, HX.out]; exact HS.out 1, (hb.setCell (p := ⟨w.heap.size, k, none⟩) (Nat.le_refl _) _)⟩
     case measure => have := HK.out; omega
  ·go_wp2
   go_ret2
   refine ⟨_, rfl, ?_, hb⟩
   rw [partL_end _ _ _ _ (by omega)] at hO
   exact blk_RI hO
end Smp
end Go.Proofs.YtelkokcnedbmeaaGreat
namespace Go.Proofs.YtelkokcnedbmeaaGreat
open Go.RowKit Lagc
set_option maxRecDepth 20000
set_option linter.unusedVariables false
set_option linter.unusedSimpArgs false
namespace Lagp
def sumP (l : List (Int × Int)) : Int × Int := l.foldl (fun a x => (a.1 + x.1, a.2 + x.2)) (0, 0)
theorem sumP_snoc (l : List (Int × Int)) (x : Int × Int) : sumP (l ++ [x]) = ((sumP l).1 + x.1, (sumP l).2 + x.2) := by simp [sumP, List.foldl_append]
theorem sumP_take {l : List (Int × Int)} {k : Nat} (h : k < l.length) : sumP (l.take (k + 1)) = ((sumP (l.take k)).1 + l[k].1, (sumP (l.take k)).2 + l[k].2) := by
 rw [List.take_succ_eq_append_getElem h, sumP_snoc]
theorem okLag_bd {a : Int × Int} (h : okLag a = true) : 0 ≤ a.2 ∧ a.2 ≤ 256 ∧ -2304 ≤ a.1 ∧ a.1 ≤ 2304 := by
 simp only [okLag, decide_eq_true_eq] at h; omega
theorem lagErr_zero {l : List (Int × Int)} (h : lagErr l = 0) : l.length ≤ 511 ∧ ¬ l.length % 2 = 0 ∧ ∀ x ∈ l, okLag x = true := by
 unfold lagErr at h
 split at h
 ·omega
 ·split at h
  ·omega
  ·split at h
   ·rename_i h1 h2 h3
    exact ⟨by omega, h2, by simpa using h3⟩
   ·omega
theorem sumP_bd {l : List (Int × Int)} (h : ∀ x ∈ l, okLag x = true) : ∀ k, k ≤ l.length → -(2304 * (k : Int)) ≤ (sumP (l.take k)).1 ∧ (sumP (l.take k)).1 ≤ 2304 * k ∧ 0 ≤ (sumP (l.take k)).2 ∧ (sumP (l.take k)).2 ≤ 256 * k := by
 intro k
 induction k with
 | zero => intro _; simp [sumP]
 | succ k ih =>
  intro hk
  have h1 := ih (by omega)
  have h2 := okLag_bd (h _ (List.getElem_mem (show k < l.length by omega)))
  rw [sumP_take (by omega)]
  simp only []
  omega
def aheadB (l : List (Int × Int)) (i k : Nat) : Bool :=
 if (l.getD i (0, 0)).1 ≠ (l.getD k (0, 0)).1 then decide ((l.getD k (0, 0)).1 < (l.getD i (0, 0)).1)
 else if ((i : Int) - (l.length : Int) / 2) * ((i : Int) - (l.length : Int) / 2) ≠ ((k : Int) - (l.length : Int) / 2) * ((k : Int) - (l.length : Int) / 2) then
  decide (((i : Int) - (l.length : Int) / 2) * ((i : Int) - (l.length : Int) / 2) < ((k : Int) - (l.length : Int) / 2) * ((k : Int) - (l.length : Int) / 2))
 else decide (i < k)
def bestIx (l : List (Int × Int)) : Nat → Nat
 | 0 => 0
 | k + 1 => if aheadB l k (bestIx l k) = true then k else bestIx l k
theorem bestIx_le (l : List (Int × Int)) (k : Nat) : bestIx l k = 0 ∨ bestIx l k < k := by
 induction k with
 | zero => exact .inl rfl
 | succ k ih =>
  unfold bestIx
  split
  ·exact .inr (by omega)
  ·omega
theorem bestIx_yes {l : List (Int × Int)} {k : Nat} (h : aheadB l k (bestIx l k) = true) : bestIx l (k + 1) = k := by rw [bestIx, if_pos h]
theorem bestIx_no {l : List (Int × Int)} {k : Nat} (h : aheadB l k (bestIx l k) = false) : bestIx l (k + 1) = bestIx l k := by rw [bestIx, if_neg (by simp [h])]
def peakSpec (l : List (Int × Int)) : Int × Int :=
 if lagErr l ≠ 0 then (0, lagErr l) else if (sumP l).2 = 0 then (0, 18) else ((bestIx l l.length : Int) - (l.length : Int) / 2, 0)
theorem peak_err {l : List (Int × Int)} (h : ¬ lagErr l = 0) : peakSpec l = (0, lagErr l) := by simp [peakSpec, h]
theorem peak_zero {l : List (Int × Int)} (h : lagErr l = 0) (h2 : (sumP l).2 = 0) : peakSpec l = (0, 18) := by simp [peakSpec, h, h2]
theorem peak_ok {l : List (Int × Int)} (h : lagErr l = 0) (h2 : ¬ (sumP l).2 = 0) : peakSpec l = ((bestIx l l.length : Int) - (l.length : Int) / 2, 0) := by simp [peakSpec, h, h2]
theorem ret_pair {j k : IntKind} {a b : Int} {p : Int × Int} (h : p = (a, b)) : Ending.returned (.tuple #[.int j a, .int k b]) = .returned (.tuple #[.int j p.1, .int k p.2]) := by rw [h]
def qd (l : List (Int × Int)) (i : Nat) : Int := ((i : Int) - (l.length : Int) / 2) * ((i : Int) - (l.length : Int) / 2)
theorem aheadB_iff (l : List (Int × Int)) (i k : Nat) : aheadB l i k = true ↔ ((l.getD k (0, 0)).1 < (l.getD i (0, 0)).1 ∨ ((l.getD k (0, 0)).1 = (l.getD i (0, 0)).1 ∧ (qd l i < qd l k ∨ (qd l i = qd l k ∧ i < k)))) := by
 unfold aheadB
 simp only [show ((i : Int) - (l.length : Int) / 2) * ((i : Int) - (l.length : Int) / 2) = qd l i from rfl, show ((k : Int) - (l.length : Int) / 2) * ((k : Int) - (l.length : Int) / 2) = qd l k from rfl]
 split
 ·simp only [decide_eq_true_eq]; omega
 ·split
  ·simp only [decide_eq_true_eq]; omega
  ·simp only [decide_eq_true_eq]; omega
theorem ahead_no {l : List (Int × Int)} {i k : Nat} : aheadB l i k = false ↔ ¬ ((l.getD k (0, 0)).1 < (l.getD i (0, 0)).1 ∨ ((l.getD k (0, 0)).1 = (l.getD i (0, 0)).1 ∧ (qd l i < qd l k ∨ (qd l i = qd l k ∧ i < k)))) := by
 rw [← aheadB_iff]; simp
theorem ahead_irr (l : List (Int × Int)) (i : Nat) : aheadB l i i = false := by rw [ahead_no]; omega
theorem ahead_tr {l : List (Int × Int)} {i j k : Nat} (h1 : aheadB l i j = true) (h2 : aheadB l k j = false) : aheadB l k i = false := by
 rw [aheadB_iff] at h1; rw [ahead_no] at h2 ⊢; omega
theorem ahead_eq {l : List (Int × Int)} {i k : Nat} (h1 : aheadB l i k = false) (h2 : aheadB l k i = false) : i = k := by
 rw [ahead_no] at h1 h2; omega
theorem best_all (l : List (Int × Int)) (k : Nat) : ∀ j, j < k → aheadB l j (bestIx l k) = false := by
 induction k with
 | zero => intro j hj; omega
 | succ k ih =>
  intro j hj
  cases h : aheadB l k (bestIx l k) with
  | true =>
   rw [bestIx_yes h]
   rcases Nat.lt_or_ge j k with h1 | h1
   ·exact ahead_tr h (ih j h1)
   ·obtain rfl : j = k := by omega
    exact ahead_irr l j
  | false =>
   rw [bestIx_no h]
   rcases Nat.lt_or_ge j k with h1 | h1
   ·exact ih j h1
   ·obtain rfl : j = k := by omega
    exact h
theorem best_uniq {l : List (Int × Int)} {b : Nat} (hb : b < l.length) (h : ∀ j, j < l.length → aheadB l j b = false) : bestIx l l.length = b := by
 have h1 := bestIx_le l l.length
 exact ahead_eq (h _ (by omega)) (best_all l _ b hb)
theorem step_yes {l : List (Int × Int)} {P : Nat → Prop} {b c : Nat} (h : ∀ j, P j → aheadB l j b = false) (hc : aheadB l c b = true) : ∀ j, P j ∨ j = c → aheadB l j c = false := by
 intro j hj
 rcases hj with hj | rfl
 ·exact ahead_tr hc (h j hj)
 ·exact ahead_irr _ _
theorem step_no {l : List (Int × Int)} {P : Nat → Prop} {b c : Nat} (h : ∀ j, P j → aheadB l j b = false) (hc : aheadB l c b = false) : ∀ j, P j ∨ j = c → aheadB l j b = false := by
 intro j hj
 rcases hj with hj | rfl
 ·exact h j hj
 ·exact hc
theorem sq_lt {x y : Int} (h : x.natAbs < y.natAbs) : x * x < y * y := by
 rw [← Int.natAbs_mul_self, ← Int.natAbs_mul_self]
 exact Int.ofNat_lt.2 (Nat.mul_self_lt_mul_self h)
theorem sq_eq {x y : Int} (h : x.natAbs = y.natAbs) : x * x = y * y := by
 rw [← Int.natAbs_mul_self, ← Int.natAbs_mul_self, h]
theorem far_yes {l : List (Int × Int)} {b c : Nat} (h1 : b < l.length) (h2 : c < l.length) (h : l[b].1 < l[c].1) : aheadB l c b = true := by
 rw [aheadB_iff, getD_lt _ _ h1, getD_lt _ _ h2]; exact .inl h
theorem far_no {l : List (Int × Int)} {b c : Nat} (h1 : b < l.length) (h2 : c < l.length) (h : l[c].1 ≤ l[b].1) (hq : ((b : Int) - (l.length : Int) / 2).natAbs < ((c : Int) - (l.length : Int) / 2).natAbs ∨ (((b : Int) - (l.length : Int) / 2).natAbs = ((c : Int) - (l.length : Int) / 2).natAbs ∧ b < c)) : aheadB l c b = false := by
 rw [ahead_no, getD_lt _ _ h1, getD_lt _ _ h2]
 rcases hq with hq | ⟨hq, h3⟩
 ·have : qd l b < qd l c := sq_lt hq
  omega
 ·have : qd l b = qd l c := sq_eq hq
  omega
theorem peak_fin {l : List (Int × Int)} {m D x y t t' : Nat} (hD : D < m) (h : ∀ j : Nat, ((-(D : Int) ≤ (j : Int) - m ∧ (j : Int) - m ≤ D) ∨ j = x) ∨ j = y → aheadB l j t = false) (hx : x = m - (D + 1)) (hy : y = m + (D + 1)) (ht : t' = t) :
 ∀ j : Nat, (-((D + 1 : Nat) : Int) ≤ (j : Int) - m ∧ (j : Int) - m ≤ ((D + 1 : Nat) : Int)) → aheadB l j t' = false := by
 intro j hj
 rw [ht]
 exact h j (by omega)
theorem sumN_zero {l : List (Int × Int)} {k : Nat} (h : ∀ x ∈ l, okLag x = true) (hk : k < l.length) : ((sumP (l.take (k + 1))).2 = 0 ↔ (sumP (l.take k)).2 = 0 ∧ l[k].2 = 0) := by
 have h1 := sumP_bd h k (by omega)
 have h2 := okLag_bd (h _ (List.getElem_mem hk))
 rw [sumP_take hk]
 simp only []
 omega
theorem lagPeak_any (A : Option Addr) (c : Nat) (l : List (Int × Int)) (w : World) (hx : RL w A l) (hl : l.length ≤ 140737488355328) :
 Calls Tryz.prog 20 #[.slice A l.length c] w fun e w' => e = .returned (.tuple #[.int .i64 (peakSpec l).1, .int .i64 (peakSpec l).2]) ∧ Below w.heap.size w w' := by
 rcases (Decidable.em (lagErr l = 0)).symm with he | he
 ·have e1 : (lagErr l != 0) = true := by simp [he]
  have HE := Lib.hid he
  clear he
  go_enter Tryz.func20, Tryz.ntmps20
  go_wp2_with fail
  refine (lagCheck_any _ _ _ _ hx hl).mono ?_
  rintro e w1 ⟨rfl, hb1⟩
  go_wp2
  go_ret2
  exact ⟨ret_pair (peak_err HE.out), hb1⟩
 have e1 : (lagErr l != 0) = false := by simp [he]
 have HE := Lib.hid he
 have hl5 := (lagErr_zero he).1
 obtain ⟨m, hm⟩ : ∃ m : Nat, l.length = 2 * m + 1 := ⟨l.length / 2, by have := (lagErr_zero he).2.1; omega⟩
 have HM := Lib.hid hm
 have hm1 : 2 * m < l.length := by omega
 have hm2 : l.length ≤ 2 * m + 1 := by omega
 clear he hm
 go_enter Tryz.func20, Tryz.ntmps20
 go_wp2_with fail
 refine (lagCheck_any _ _ _ _ hx hl).mono ?_
 rintro e w1 ⟨rfl, hb1⟩
 go_wp2
 go_loopg [5, 7, 18] l.length (fun gk z _ i wr => ∃ (k : Nat) (zb : Bool), k + gk = l.length ∧ i = .int .i64 k ∧ z = .bool zb ∧ Hid (zb = decide ((sumP (l.take k)).2 = 0)) ∧ Below w.heap.size w wr)
 case atStart => exact ⟨0, true, by omega, rfl, rfl, Lib.hid (by simp [sumP]), hb1⟩
 case round =>
  obtain ⟨k, zb, hk, rfl, rfl, hzb, hb⟩ := hrel
  have hk' : k ≤ l.length := by omega
  have HK := Lib.hid hk
  clear hk
  by_cases hlt : k < l.length
  ·obtain ⟨b, off, rfl, _, hc1, hc2⟩ := (hx.keep hb).at_ hlt
   go_wp2
   ·have hv : (l[k].2 != 0) = true := by assumption
    go_roundg (gk - 1)
    case rel => exact ⟨k + 1, false, by have := HK.out; omega, by go_num, rfl, Lib.hid (by symm; rw [decide_eq_false_iff_not, sumN_zero (lagErr_zero HE.out).2.2 hlt]; simp at hv; omega), hb.alloc hb.size _⟩
    case measure => have := HK.out; omega
   ·have hv : (l[k].2 != 0) = false := by assumption
    go_roundg (gk - 1)
    case rel => exact ⟨k + 1, zb, by have := HK.out; omega, by go_num, rfl, Lib.hid (by rw [hzb.out]; apply decide_eq_decide.2; rw [sumN_zero (lagErr_zero HE.out).2.2 hlt]; simp at hv; simp [hv]), hb.alloc hb.size _⟩
    case measure => have := HK.out; omega
  ·have h5 : l.take k = l := List.take_of_length_le (by omega)
   rw [h5] at hzb
   clear h5 hk' HK
   cases zb with
   | true =>
    go_wp2
    go_ret2
    exact ⟨ret_pair (peak_zero HE.out (by have := hzb.out; simpa using this.symm)), hb⟩
   | false =>
    obtain ⟨wo, rfl⟩ : ∃ wo : World, wo = wr := ⟨_, rfl⟩
    have hst : ∀ j : Nat, (-((0 : Nat) : Int) ≤ (j : Int) - m ∧ (j : Int) - m ≤ ((0 : Nat) : Int)) → aheadB l j ((l.length : Int) / 2 + 0).toNat = false := by
     intro j h1
     have h3 : ((l.length : Int) / 2 + 0).toNat = j := by omega
     rw [h3]; exact ahead_irr _ _
    have HST := Lib.hid hst
    clear hst
    go_wp2
    go_loopg [9, 10] (m + 1) (fun gk bs d wq => ∃ (D q : Nat) (z : Int), D + gk = m + 1 ∧ d = .int .i64 ((D : Int) + 1) ∧ bs = .int .i64 z ∧ -(D : Int) ≤ z ∧ z ≤ D ∧ D ≤ m ∧ Hid (∀ j : Nat, (-(D : Int) ≤ (j : Int) - m ∧ (j : Int) - m ≤ D) → aheadB l j ((l.length : Int) / 2 + z).toNat = false) ∧ wq = wo.drewN q)
    case atStart => exact ⟨0, 0, 0, by omega, rfl, rfl, by omega, by omega, by omega, HST, rfl⟩
    case round =>
     obtain ⟨D, q, z, hk, rfl, rfl, hz1, hz2, hDm, hall, rfl⟩ := hrel
     have HK := Lib.hid hk
     clear hk
     have hi2 : ((l.length : Int) / 2 + z).toNat < l.length := by omega
     by_cases hlt : D < m
     ·have hi1 : l.length / 2 - (D + 1) < l.length := by omega
      have hi3 : l.length / 2 + (D + 1) < l.length := by omega
      obtain ⟨b, off, rfl, _, hc1, hc2⟩ := (hx.keep hb).at_ hi1
      obtain ⟨b', off', e, _, hd1, hd2⟩ := (hx.keep hb).at_ hi2
      obtain ⟨rfl, rfl⟩ : b = b' ∧ off = off' := by injection e with e; injection e with e1 e2; exact ⟨e1, e2⟩
      obtain ⟨b', off', e, _, hf1, hf2⟩ := (hx.keep hb).at_ hi3
      obtain ⟨rfl, rfl⟩ : b = b' ∧ off = off' := by injection e with e; injection e with e1 e2; exact ⟨e1, e2⟩
      clear e hc2 hd2 hf2
      have hi4 : ((l.length : Int) / 2 + -((D : Int) + 1)).toNat < l.length := by omega
      obtain ⟨b', off', e, _, hg1, hg2⟩ := (hx.keep hb).at_ hi4
      obtain ⟨rfl, rfl⟩ : b = b' ∧ off = off' := by injection e with e; injection e with e1 e2; exact ⟨e1, e2⟩
      clear e hg2
      have e14 : l.length / 2 - (D + 1) = ((l.length : Int) / 2 + -((D : Int) + 1)).toNat := by omega
      have E14 := Lib.hid e14
      clear e14
      go_wp2
      go_quiet (fail)
      go_wp2
      ·have v1 : l[((l.length : Int) / 2 + z).toNat].1 < l[l.length / 2 - (D + 1)].1 := by assumption
       have V1 := Lib.hid (step_yes hall.out (far_yes hi2 hi1 v1))
       go_quiet (fail)
       go_wp2
       ·have v2 : l[((l.length : Int) / 2 + -((D : Int) + 1)).toNat].1 < l[l.length / 2 + (D + 1)].1 := by assumption
        have V2 := Lib.hid (step_yes V1.out (by rw [E14.out]; exact far_yes hi4 hi3 v2))
        go_roundg (gk - 1)
        case rel => exact ⟨D + 1, _, (D : Int) + 1, by have := HK.out; omega, by go_num, rfl, by omega, by omega, by omega, Lib.hid (peak_fin hlt V2.out (by omega) (by omega) (by omega)), by first | rfl | rw [World.drewN_drewN]⟩
        case measure => have := HK.out; omega
       ·have v2 : l[l.length / 2 + (D + 1)].1 ≤ l[((l.length : Int) / 2 + -((D : Int) + 1)).toNat].1 := by assumption
        have V2 := Lib.hid (step_no V1.out (by rw [E14.out]; exact far_no hi4 hi3 v2 (by omega)))
        go_roundg (gk - 1)
        case rel => exact ⟨D + 1, _, -((D : Int) + 1), by have := HK.out; omega, by go_num, rfl, by omega, by omega, by omega, Lib.hid (peak_fin hlt V2.out (by omega) (by omega) E14.out.symm), by first | rfl | rw [World.drewN_drewN]⟩
        case measure => have := HK.out; omega
      ·have v1 : l[l.length / 2 - (D + 1)].1 ≤ l[((l.length : Int) / 2 + z).toNat].1 := by assumption
       have V1 := Lib.hid (step_no hall.out (far_no hi2 hi1 v1 (by omega)))
       go_quiet (fail)
       go_wp2
       ·have v2 : l[((l.length : Int) / 2 + z).toNat].1 < l[l.length / 2 + (D + 1)].1 := by assumption
        have V2 := Lib.hid (step_yes V1.out (far_yes hi2 hi3 v2))
        go_roundg (gk - 1)
        case rel => exact ⟨D + 1, _, (D : Int) + 1, by have := HK.out; omega, by go_num, rfl, by omega, by omega, by omega, Lib.hid (peak_fin hlt V2.out (by omega) (by omega) (by omega)), by first | rfl | rw [World.drewN_drewN]⟩
        case measure => have := HK.out; omega
       ·have v2 : l[l.length / 2 + (D + 1)].1 ≤ l[((l.length : Int) / 2 + z).toNat].1 := by assumption
        have V2 := Lib.hid (step_no V1.out (far_no hi2 hi3 v2 (by omega)))
        go_roundg (gk - 1)
        case rel => exact ⟨D + 1, _, z, by have := HK.out; omega, by go_num, rfl, by omega, by omega, by omega, Lib.hid (peak_fin hlt V2.out (by omega) (by omega) rfl), by first | rfl | rw [World.drewN_drewN]⟩
        case measure => have := HK.out; omega
     ·go_wp2
      go_ret2
      have hu := best_uniq hi2 (fun j hj => hall.out j (by omega))
      refine ⟨ret_pair ?_, below_drewN hb q⟩
      rw [peak_ok HE.out (by have := hzb.out; simpa using this.symm), hu]
      congr 1
      omega
end Lagp
end Go.Proofs.YtelkokcnedbmeaaGreat
namespace Go.Proofs.YtelkokcnedbmeaaGreat
set_option linter.unusedVariables false
namespace Srch
set_option maxRecDepth 20000
set_option linter.unusedSimpArgs false
theorem better_iff (c d : Cl) : betterB c d = true ↔ d.pw < c.pw ∨ (c.pw = d.pw ∧ (absI c.d < absI d.d ∨ (absI c.d = absI d.d ∧ (c.d < d.d ∨ (c.d = d.d ∧ c.r < d.r))))) := by
 unfold betterB
 repeat' split
 all_goals simp only [decide_eq_true_eq]
 all_goals omega
theorem better_no (c d : Cl) : betterB c d = false ↔ ¬ (d.pw < c.pw ∨ (c.pw = d.pw ∧ (absI c.d < absI d.d ∨ (absI c.d = absI d.d ∧ (c.d < d.d ∨ (c.d = d.d ∧ c.r < d.r)))))) := by
 rw [← better_iff]; simp
def bestGo (l : List Cl) (b : Cl) : Cl := l.foldl (fun b c => if betterB c b then c else b) b
def bestOf : List Cl → Cl
 | [] => zeroC
 | c :: l => bestGo l c
def bestTo (l : List Cl) (k : Nat) : Cl := bestOf (l.take k)
theorem bestTo_one {l : List Cl} (h : 0 < l.length) : bestTo l 1 = l[0] := by
 rcases l with _ | ⟨c, l⟩
 ·simp at h
 ·rfl
theorem bestTo_succ {l : List Cl} {k : Nat} (h0 : 0 < k) (h : k < l.length) : bestTo l (k + 1) = if betterB l[k] (bestTo l k) then l[k] else bestTo l k := by
 unfold bestTo
 rw [List.take_succ_eq_append_getElem h]
 rcases l with _ | ⟨c, l⟩
 ·simp at h
 ·rcases k with _ | k
  ·omega
  ·rw [List.take_succ_cons, List.cons_append]
   simp only [bestOf, bestGo, List.foldl_append, List.foldl_cons, List.foldl_nil]
   rfl
theorem bestTo_all (l : List Cl) (k : Nat) (h : l.length ≤ k) : bestTo l k = bestOf l := by unfold bestTo; rw [List.take_of_length_le h]
def IsBest (l : List Cl) (k : Nat) (b : Cl) : Prop := (∃ j, ∃ h : j < l.length, j < k ∧ l[j] = b) ∧ ∀ j (h : j < l.length), j < k → betterB l[j] b = false
theorem best_is {l : List Cl} {k : Nat} (h0 : 0 < k) (h : k ≤ l.length) : IsBest l k (bestTo l k) := by
 induction k with
 | zero => omega
 | succ k ih =>
  rcases Nat.eq_zero_or_pos k with rfl | hk
  ·have e := bestTo_one (l := l) (by omega)
   refine ⟨⟨0, by omega, by omega, e.symm⟩, fun j hj hj2 => ?_⟩
   obtain rfl : j = 0 := by omega
   rw [e, better_no]
   omega
  ·obtain ⟨⟨j, hj, hjk, hb⟩, hall⟩ := ih hk (by omega)
   rw [bestTo_succ hk (by omega)]
   split
   ·rename_i hc
    refine ⟨⟨k, by omega, by omega, rfl⟩, fun i hi hik => ?_⟩
    rcases Nat.lt_or_ge i k with h1 | h1
    ·have h2 := hall i hi h1
     rw [better_iff] at hc
     rw [better_no] at h2 ⊢
     omega
    ·obtain rfl : i = k := by omega
     rw [better_no]
     omega
   ·rename_i hc
    refine ⟨⟨j, hj, by omega, hb⟩, fun i hi hik => ?_⟩
    rcases Nat.lt_or_ge i k with h1 | h1
    ·exact hall i hi h1
    ·obtain rfl : i = k := by omega
     simpa using hc
theorem cellS_d {xs ys : List Int} {d r s : Int} : (cellS xs ys d r s).d = d := rfl
def bestSpec (xs ys : List Int) (m s : Int) : Cl × Int := if askErr xs ys s ≠ 0 then (zeroC, askErr xs ys s) else if 0 ≤ m ∧ m ≤ 32 then (if (bestOf (fullL (gridAt xs ys m s) (gridN m))).pw = 0 then (zeroC, 18) else (bestOf (fullL (gridAt xs ys m s) (gridN m)), 0)) else (zeroC, 2)
theorem best_err {xs ys : List Int} {m s : Int} (h : ¬ askErr xs ys s = 0) : bestSpec xs ys m s = (zeroC, askErr xs ys s) := by simp [bestSpec, h]
theorem best_arg {xs ys : List Int} {m s : Int} (h : askErr xs ys s = 0) (h2 : ¬ (0 ≤ m ∧ m ≤ 32)) : bestSpec xs ys m s = (zeroC, 2) := by simp [bestSpec, h, h2]
theorem best_none {xs ys : List Int} {m s : Int} (h : askErr xs ys s = 0) (h2 : 0 ≤ m ∧ m ≤ 32) (h3 : (bestOf (fullL (gridAt xs ys m s) (gridN m))).pw = 0) : bestSpec xs ys m s = (zeroC, 18) := by simp [bestSpec, h, h2, h3]
theorem best_ok {xs ys : List Int} {m s : Int} (h : askErr xs ys s = 0) (h2 : 0 ≤ m ∧ m ≤ 32) (h3 : ¬ (bestOf (fullL (gridAt xs ys m s) (gridN m))).pw = 0) : bestSpec xs ys m s = (bestOf (fullL (gridAt xs ys m s) (gridN m)), 0) := by simp [bestSpec, h, h2, h3]
end Srch
end Go.Proofs.YtelkokcnedbmeaaGreat
