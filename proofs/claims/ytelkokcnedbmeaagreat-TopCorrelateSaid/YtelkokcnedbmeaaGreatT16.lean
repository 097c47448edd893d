/-
  Parts of the proof of TopCorrelate: TaF TaG TaH TaI.
-/
import Derived.Test.YtelkokcnedbmeaaGreatT15
import Derived.Deep.RegionHeld3
import Derived.StillTailTactics
import Derived.Test.YtelkokcnedbmeaaGreatT11
import Derived.RegionTactic
import Derived.BigRegion
namespace Go.Proofs.YtelkokcnedbmeaaGreat
open Go.RowKit
set_option maxRecDepth 20000
set_option linter.unusedVariables false
namespace Aln
def RB (w : World) (A : Option Addr) (l : List (Int × List Int)) : Prop :=
 0 < l.length → ∃ b off, A = some ⟨b, off, none⟩ ∧ b < w.heap.size ∧ ∀ j (hj : j < l.length), w.cell? ⟨b, off + j * 2, none⟩ = some (.int .i64 l[j].1) ∧ ∃ A' c', w.cell? ⟨b, off + j * 2 + 1, none⟩ = some (.slice A' l[j].2.length c') ∧ RI .i64 w A' l[j].2 ∧ l[j].2.length ≤ c'
theorem RB.keep {w w' : World} {A : Option Addr} {l : List (Int × List Int)} (h : RB w A l) (hb : Below w.heap.size w w') : RB w' A l := by
 intro h0
 obtain ⟨b, off, e, hlt, hc⟩ := h h0
 refine ⟨b, off, e, Nat.lt_of_lt_of_le hlt hb.size, fun j hj => ?_⟩
 obtain ⟨h1, A', c', h2, h3, h4⟩ := hc j hj
 exact ⟨(hb.cell (p := ⟨b, off + j * 2, none⟩) hlt).trans h1, A', c', (hb.cell (p := ⟨b, off + j * 2 + 1, none⟩) hlt).trans h2, h3.keep hb, h4⟩
theorem RB.nil {w : World} {A : Option Addr} : RB w A [] := fun h => absurd h (by simp)
theorem RB.at_ {w : World} {A : Option Addr} {l : List (Int × List Int)} {k : Nat} (h : RB w A l) (hk : k < l.length) :
 ∃ b off A' c', A = some ⟨b, off, none⟩ ∧ b < w.heap.size ∧ w.cell? ⟨b, off + k * 2, none⟩ = some (.int .i64 l[k].1) ∧ w.cell? ⟨b, off + k * 2 + 1, none⟩ = some (.slice A' l[k].2.length c') ∧ RI .i64 w A' l[k].2 ∧ l[k].2.length ≤ c' := by
 obtain ⟨b, off, e, hlt, hc⟩ := h (by omega)
 obtain ⟨h1, A', c', h2, h3, h4⟩ := hc k hk
 exact ⟨b, off, A', c', e, hlt, h1, h2, h3, h4⟩
def okB (b : Int × List Int) : Bool := decide (0 ≤ b.1 ∧ b.1 ≤ 1000000 ∧ 0 < b.2.length ∧ streamErr b.2 = 0)
def endB (b : Int × List Int) : Int := b.1 + b.2.length
theorem okB_bd {b : Int × List Int} (h : okB b = true) : 0 ≤ b.1 ∧ b.1 ≤ 1000000 ∧ 0 < b.2.length ∧ b.2.length ≤ 256 ∧ streamErr b.2 = 0 := by
 simp only [okB, decide_eq_true_eq] at h
 have := (streamErr_zero h.2.2.2).1
 omega
def recOk (l : List (Int × List Int)) : Nat → Bool
 | 0 => true
 | k + 1 => recOk l k && okB (l.getD k (0, [])) && decide (k = 0 ∨ endB (l.getD (k - 1) (0, [])) ≤ (l.getD k (0, [])).1)
def recErr (l : List (Int × List Int)) : Int := if 64 < l.length then 4 else if recOk l l.length then 0 else 8
theorem recErr_many {l : List (Int × List Int)} (h : 64 < l.length) : recErr l = 4 := by unfold recErr; rw [if_pos h]
theorem recOk_le {l : List (Int × List Int)} {j k : Nat} (hjk : j ≤ k) (h : recOk l k = true) : recOk l j = true := by
 induction k with
 | zero => obtain rfl : j = 0 := by omega
           exact h
 | succ k ih =>
  rcases Nat.lt_or_ge j (k + 1) with h1 | h1
  ·simp only [recOk, Bool.and_eq_true] at h
   exact ih (by omega) h.1.1
  ·obtain rfl : j = k + 1 := by omega
   exact h
theorem recOk_at {l : List (Int × List Int)} {j k : Nat} (hjk : j < k) (h : recOk l k = true) : okB (l.getD j (0, [])) = true ∧ (j = 0 ∨ endB (l.getD (j - 1) (0, [])) ≤ (l.getD j (0, [])).1) := by
 have h1 := recOk_le (j := j + 1) (by omega) h
 simp only [recOk, Bool.and_eq_true, decide_eq_true_eq] at h1
 exact ⟨h1.1.2, h1.2⟩
theorem recErr_bad {l : List (Int × List Int)} {k : Nat} (h : l.length ≤ 64) (hk : k < l.length) (h2 : recOk l (k + 1) = false) : recErr l = 8 := by
 unfold recErr
 rw [if_neg (by omega), if_neg]
 intro h3
 have := recOk_le (j := k + 1) (by omega) h3
 rw [this] at h2
 cases h2
theorem recErr_ok {l : List (Int × List Int)} (h : l.length ≤ 64) (h2 : recOk l l.length = true) : recErr l = 0 := by
 unfold recErr
 rw [if_neg (by omega), if_pos h2]
theorem recErr_zero {l : List (Int × List Int)} (h : recErr l = 0) : l.length ≤ 64 ∧ recOk l l.length = true := by
 unfold recErr at h
 split at h
 ·omega
 ·split at h
  ·rename_i h1 h2; exact ⟨by omega, h2⟩
  ·omega
theorem recErr_at {l : List (Int × List Int)} {j : Nat} (h : recErr l = 0) (hj : j < l.length) : okB l[j] = true := by
 have := (recOk_at hj (recErr_zero h).2).1
 rwa [getD_lt _ _ hj] at this
theorem recErr_next {l : List (Int × List Int)} {j : Nat} (h : recErr l = 0) (hj : j + 1 < l.length) : endB l[j] ≤ l[j + 1].1 := by
 have := (recOk_at hj (recErr_zero h).2).2
 rcases this with h1 | h1
 ·omega
 ·simp only [Nat.add_sub_cancel] at h1
  rwa [getD_lt _ _ hj, getD_lt _ _ (by omega)] at h1
theorem end_any (a : Int) (A : Option Addr) (n c : Nat) (w : World) (h1 : -1000000000 ≤ a) (h2 : a ≤ 1000000000) (h3 : n ≤ 1000000000) :
 Calls Tryz.prog 70 #[.agg #[.int .i64 a, .slice A n c]] w fun e w' => e = .returned (.int .i64 (a + n)) ∧ Below w.heap.size w w' := by
 go_enter Tryz.func70, Tryz.ntmps70
 go_wp2
 go_ret
 exact ⟨rfl, balloc (Below.refl _ _) _⟩
theorem valid_any (a : Int) (A : Option Addr) (c : Nat) (xs : List Int) (w : World) (hx : RI .i64 w A xs) (hl : xs.length ≤ 140737488355328) :
 Calls Tryz.prog 67 #[.agg #[.int .i64 a, .slice A xs.length c]] w fun e w' => e = .returned (.bool (okB (a, xs))) ∧ Below w.heap.size w w' := by
 rcases (show (0 ≤ a ∧ a ≤ 1000000 ∧ 0 < xs.length) ∨ a < 0 ∨ (0 ≤ a ∧ 1000000 < a) ∨ (0 ≤ a ∧ a ≤ 1000000 ∧ xs.length = 0) by omega) with h | h
 ·obtain ⟨h1, h2, h3⟩ := h
  by_cases he : streamErr xs = 0
  ·have e1 : (streamErr xs == 0) = true := by simp [he]
   have HE : Hid (okB (a, xs) = true) := Lib.hid (by simp only [okB, decide_eq_true_eq]; exact ⟨h1, h2, h3, he⟩)
   clear he
   go_enter Tryz.func67, Tryz.ntmps67
   go_wp2_with fail
   refine (sampleCheck_any _ _ _ _ (hx.keep (balloc (Below.refl _ _) _)) hl).mono ?_
   rintro _ _ ⟨rfl, rfl⟩
   go_wp2
   go_ret
   exact ⟨ret_bool HE.out.symm, balloc (Below.refl _ _) _⟩
  ·have e1 : (streamErr xs == 0) = false := by simp [he]
   have HE : Hid (okB (a, xs) = false) := Lib.hid (by simp only [okB, decide_eq_false_iff_not]; exact fun h => he h.2.2.2)
   clear he
   go_enter Tryz.func67, Tryz.ntmps67
   go_wp2_with fail
   refine (sampleCheck_any _ _ _ _ (hx.keep (balloc (Below.refl _ _) _)) hl).mono ?_
   rintro _ _ ⟨rfl, rfl⟩
   go_wp2
   go_ret
   exact ⟨ret_bool HE.out.symm, balloc (Below.refl _ _) _⟩
 ·have HE : Hid (okB (a, xs) = false) := Lib.hid (by simp only [okB, decide_eq_false_iff_not]; omega)
  rcases h with h | h | ⟨h1, h2, h3⟩
  ·go_enter Tryz.func67, Tryz.ntmps67
   go_wp2
   go_ret
   exact ⟨ret_bool HE.out.symm, balloc (Below.refl _ _) _⟩
  ·go_enter Tryz.func67, Tryz.ntmps67
   go_wp2
   go_ret
   exact ⟨ret_bool HE.out.symm, balloc (Below.refl _ _) _⟩
  ·have d3 : decide (0 < xs.length) = false := decide_eq_false (by omega)
   clear h3
   go_enter Tryz.func67, Tryz.ntmps67
   go_wp2
   go_ret
   exact ⟨ret_bool HE.out.symm, balloc (Below.refl _ _) _⟩
end Aln
end Go.Proofs.YtelkokcnedbmeaaGreat
namespace Go.Proofs.YtelkokcnedbmeaaGreat
open Go.RowKit
set_option maxRecDepth 20000
set_option linter.unusedVariables false
namespace Aln
theorem recOk_no {l : List (Int × List Int)} {k : Nat} (hlt : k < l.length) (h : okB l[k] = false) : recOk l (k + 1) = false := by
 unfold recOk; rw [getD_lt _ _ hlt, h]; simp
theorem recOk_zero {l : List (Int × List Int)} {k : Nat} (hlt : k < l.length) (h0 : k = 0) (h : okB l[k] = true) : recOk l (k + 1) = true := by
 unfold recOk; rw [getD_lt _ _ hlt, h]; subst h0; simp [recOk]
theorem recOk_yes {l : List (Int × List Int)} {k : Nat} (hlt : k < l.length) (hall : recOk l k = true) (h : okB l[k] = true) (h2 : endB (l[k - 1]'(by omega)) ≤ l[k].1) : recOk l (k + 1) = true := by
 unfold recOk; rw [getD_lt _ _ hlt, getD_lt _ _ (show k - 1 < l.length by omega), h, hall]; simp [h2]
theorem recOk_over {l : List (Int × List Int)} {k : Nat} (hlt : k < l.length) (h0 : 0 < k) (h2 : l[k].1 < endB (l[k - 1]'(by omega))) : recOk l (k + 1) = false := by
 unfold recOk; rw [getD_lt _ _ hlt, getD_lt _ _ (show k - 1 < l.length by omega)]
 have : ¬ (k = 0 ∨ endB (l[k - 1]'(by omega)) ≤ l[k].1) := by omega
 simp [this]
set_option maxHeartbeats 4000000 in
theorem alignCheck_any (A : Option Addr) (c : Nat) (l : List (Int × List Int)) (w : World) (hx : RB w A l) (hl : l.length ≤ 140737488355328) (hall : ∀ b ∈ l, b.2.length ≤ 140737488355328) :
 Calls Tryz.prog 66 #[.slice A l.length c] w fun e w' => e = .returned (.int .i64 (recErr l)) ∧ Below w.heap.size w w' := by
 have HALL := Lib.hid hall
 clear hall
 by_cases hm : 64 < l.length
 ·go_enter Tryz.func66, Tryz.ntmps66
  go_wp2
  go_ret
  exact ⟨ret_int (recErr_many hm).symm, Below.refl _ _⟩
 go_enter Tryz.func66, Tryz.ntmps66
 go_wp2
 go_loopg [3, 4, 10] l.length (fun gk _ _ i wr => ∃ k : Nat, k + gk = l.length ∧ i = .int .i64 k ∧ Below w.heap.size w wr ∧ Hid (recOk l k = true))
 case atStart => exact ⟨0, by omega, rfl, Below.refl _ _, Lib.hid rfl⟩
 case round =>
  obtain ⟨k, hk, rfl, hb, HOK⟩ := hrel
  have hk' : k ≤ l.length := by omega
  have HK := Lib.hid hk
  clear hk
  by_cases hlt : k < l.length
  ·obtain ⟨b, off, A', c', rfl, hlw, hw1, hw2, hr, hcap⟩ := hx.at_ hlt
   have hc1 := (hb.cell (p := ⟨b, _, none⟩) hlw).trans hw1
   have hc2 := (hb.cell (p := ⟨b, _, none⟩) hlw).trans hw2
   have hll : l[k].2.length ≤ 140737488355328 := HALL.out _ (List.getElem_mem hlt)
   have hV := Blk.new wr 83 #[.int .i64 l[k].1, .slice A' l[k].2.length c']
   have hb' := balloc hb (.cells #[.int .i64 l[k].1, .slice A' l[k].2.length c'] 83)
   go_wp2_with fail
   refine (valid_any l[k].1 A' c' l[k].2 _ (hr.keep hb') hll).mono ?_
   rintro _ w2 ⟨rfl, hb2⟩
   have hB2 := bstep hb' hb2
   have hV2 := hV.keep hb2
   have v0 : w2.cell? ⟨wr.heap.size, 0, none⟩ = some (.int .i64 l[k].1) := hV2.cell 0
   have e0 : okB (l[k].1, l[k].2) = okB l[k] := rfl
   rw [e0]
   clear hc1 hc2 hb2 hV hb'
   by_cases hv : okB l[k] = true
   ·by_cases h0 : k = 0
    ·have d0 : decide (0 < k) = false := decide_eq_false (by omega)
     have d1 : decide ((0 : Int) < (k : Int)) = false := decide_eq_false (by omega)
     have HN : Hid (recOk l (k + 1) = true) := Lib.hid (recOk_zero hlt h0 hv)
     clear h0
     go_wp2
     go_quiet (fail)
     go_wp2
     go_roundg (gk - 1)
     case rel => exact ⟨k + 1, by have := HK.out; omega, by go_num, below_drewN hB2 _, HN⟩
     case measure => have := HK.out; omega
    ·have d0 : decide (0 < k) = true := decide_eq_true (by omega)
     have d1 : decide ((0 : Int) < (k : Int)) = true := decide_eq_true (by omega)
     have hlt1 : k - 1 < l.length := by omega
     obtain ⟨b', off', A1, c1, e1, hlw1, hu1, hu2, hr1, hcap1⟩ := hx.at_ hlt1
     obtain ⟨rfl, rfl⟩ : b = b' ∧ off = off' := by injection e1 with e1; injection e1 with e2 e3; exact ⟨e2, e3⟩
     have hpr := okB_bd (recOk_at (j := k - 1) (by omega) HOK.out).1
     rw [getD_lt _ _ hlt1] at hpr
     obtain ⟨p1, p2, p3, p4, _⟩ := hpr
     have f1 : IntKind.i64.wrap ((k : Int) - 1) = (k : Int) - 1 := IntWalk.i64_in _ (by omega)
     have f2 : ((k : Int) - 1).toNat = k - 1 := by omega
     have f3 : 0 ≤ (k : Int) - 1 := by omega
     have f4 : (k : Int) - 1 < l.length := by omega
     have f5 : 1 ≤ (k : Int) := by omega
     have f6 : 1 ≤ k := by omega
     have g1 := (hB2.cell (p := ⟨b, _, none⟩) hlw).trans hu1
     have g2 := (hB2.cell (p := ⟨b, _, none⟩) hlw).trans hu2
     clear e1
     have q1 : -1000000000 ≤ (l[k - 1]'hlt1).1 := by omega
     have q2 : (l[k - 1]'hlt1).1 ≤ 1000000000 := by omega
     have q3 : (l[k - 1]'hlt1).2.length ≤ 1000000000 := by omega
     go_wp2
     go_region_held3 (fun w' => w'.cell? ⟨wr.heap.size, 0, none⟩ = some (.int .i64 l[k].1) ∧ w'.cell? ⟨b, off + (k - 1) * 2, none⟩ = some (.int .i64 (l[k - 1]'hlt1).1) ∧ w'.cell? ⟨b, off + (k - 1) * 2 + 1, none⟩ = some (.slice A1 (l[k - 1]'hlt1).2.length c1))
      (first | go_keep | exact ⟨hV3.cell 0, (hB3.cell (p := ⟨b, _, none⟩) hlw).trans hu1, (hB3.cell (p := ⟨b, _, none⟩) hlw).trans hu2⟩)
      ((go_at_call 70; refine (end_any _ _ _ _ _ q1 q2 q3).mono ?_; rintro e w3 ⟨rfl, hb3⟩; have hB3 : Below w.heap.size w w3 := bstep hB2.drew hb3; have hV3 := hV2.drew.keep hb3))
     by_cases hov : l[k].1 < (l[k - 1]'hlt1).1 + ((l[k - 1]'hlt1).2.length : Int)
     ·have HN : Hid (recErr l = 8) := Lib.hid (recErr_bad (by omega) hlt (recOk_over hlt (by omega) hov))
      go_wp2
      go_ret
      exact ⟨ret_int HN.out.symm, hB3⟩
     ·have HN : Hid (recOk l (k + 1) = true) := Lib.hid (recOk_yes hlt HOK.out hv (by unfold endB; omega))
      go_wp2
      go_roundg (gk - 1)
      case rel => exact ⟨k + 1, by have := HK.out; omega, by go_num, hB3, HN⟩
      case measure => have := HK.out; omega
   ·have hv' : okB l[k] = false := by simpa using hv
    have HN : Hid (recErr l = 8) := Lib.hid (recErr_bad (by omega) hlt (recOk_no hlt hv'))
    clear hv
    go_wp2
    go_ret
    exact ⟨ret_int HN.out.symm, hB2⟩
  ·have hkl : k = l.length := by omega
   have HN : Hid (recErr l = 0) := Lib.hid (recErr_ok (by omega) (by rw [← hkl]; exact HOK.out))
   clear hkl
   go_wp2
   go_ret
   exact ⟨ret_int HN.out.symm, hb⟩
def sampAt : List (Int × List Int) → Int → Int
 | [], _ => 0
 | b :: l, t => if b.1 ≤ t ∧ t < endB b then b.2.getD (t - b.1).toNat 0 else sampAt l t
theorem sampAt_none {l : List (Int × List Int)} {t : Int} (h : ∀ j (hj : j < l.length), ¬ (l[j].1 ≤ t ∧ t < endB l[j])) : sampAt l t = 0 := by
 induction l with
 | nil => rfl
 | cons b l ih =>
  unfold sampAt
  rw [if_neg (show ¬ (b.1 ≤ t ∧ t < endB b) from h 0 (Nat.zero_lt_succ _))]
  exact ih (fun j hj => h (j + 1) (Nat.succ_lt_succ hj))
theorem sampAt_first {l : List (Int × List Int)} {t : Int} {k : Nat} (hk : k < l.length) (h : ∀ j (hj : j < l.length), j < k → ¬ (l[j].1 ≤ t ∧ t < endB l[j])) (h2 : l[k].1 ≤ t ∧ t < endB l[k]) : sampAt l t = l[k].2.getD (t - l[k].1).toNat 0 := by
 induction l generalizing k with
 | nil => simp at hk
 | cons b l ih =>
  unfold sampAt
  cases k with
  | zero =>
   simp only [List.getElem_cons_zero] at h2 ⊢
   rw [if_pos h2]
  | succ k =>
   rw [if_neg (show ¬ (b.1 ≤ t ∧ t < endB b) from h 0 (Nat.zero_lt_succ _) (by omega))]
   simp only [List.getElem_cons_succ] at h2 ⊢
   exact ih (by simpa using hk) (fun j hj hjk => h (j + 1) (Nat.succ_lt_succ hj) (by omega)) h2
def winB (a m : Int) : Bool := decide (-1000000 ≤ a ∧ a ≤ 2000000 ∧ 0 ≤ m ∧ m ≤ 256)
theorem winB_yes {a m : Int} (h : -1000000 ≤ a ∧ a ≤ 2000000 ∧ 0 ≤ m ∧ m ≤ 256) : winB a m = true := by simpa [winB] using h
theorem winB_no {a m : Int} (h : ¬ (-1000000 ≤ a ∧ a ≤ 2000000 ∧ 0 ≤ m ∧ m ≤ 256)) : winB a m = false := by unfold winB; exact decide_eq_false h
theorem win_bd {a m : Int} (h : winB a m = true) : -1000000 ≤ a ∧ a ≤ 2000000 ∧ 0 ≤ m ∧ m ≤ 256 := by simpa [winB] using h
theorem win_ways (a m : Int) : (-1000000 ≤ a ∧ a ≤ 2000000 ∧ 0 ≤ m ∧ m ≤ 256) ∨ (a < -1000000) ∨ (-1000000 ≤ a ∧ 2000000 < a) ∨ (-1000000 ≤ a ∧ a ≤ 2000000 ∧ m < 0) ∨ (-1000000 ≤ a ∧ a ≤ 2000000 ∧ 0 ≤ m ∧ 256 < m) := by omega
theorem isWindow_any (a m : Int) (w : World) : Calls Tryz.prog 73 #[.int .i64 a, .int .i64 m] w fun e w' => e = .returned (.bool (winB a m)) ∧ w = w' := by
 rcases win_ways a m with h | h
 ·have HB := Lib.hid (winB_yes h)
  go_enter Tryz.func73, Tryz.ntmps73
  go_wp2
  go_ret
  exact ⟨ret_bool (by rw [HB.out]; try exact decide_eq_true (by omega)), rfl⟩
 ·have HB : Hid (winB a m = false) := Lib.hid (winB_no (by omega))
  rcases h with h | h | h | h
  all_goals
   go_enter Tryz.func73, Tryz.ntmps73
   go_wp2
   go_ret
   exact ⟨ret_bool (by rw [HB.out]; try exact decide_eq_false (by omega)), rfl⟩
end Aln
end Go.Proofs.YtelkokcnedbmeaaGreat
namespace Go.Proofs.YtelkokcnedbmeaaGreat
open Go.RowKit
set_option maxRecDepth 20000
set_option linter.unusedVariables false
namespace Aln
def Apart (l : List (Int × List Int)) : Prop := (∀ j (h : j < l.length), okB l[j] = true) ∧ ∀ j (h : j + 1 < l.length), endB l[j] ≤ l[j + 1].1
theorem rec_apart {l : List (Int × List Int)} (h : recErr l = 0) : Apart l := ⟨fun j hj => recErr_at h hj, fun j hj => recErr_next h hj⟩
theorem Apart.bd {l : List (Int × List Int)} (h : Apart l) (j : Nat) (hj : j < l.length) : 0 ≤ l[j].1 ∧ l[j].1 ≤ 1000000 ∧ 0 < l[j].2.length ∧ l[j].2.length ≤ 256 ∧ streamErr l[j].2 = 0 := okB_bd (h.1 j hj)
theorem Apart.lt {l : List (Int × List Int)} (h : Apart l) {i j : Nat} (hij : i < j) (hj : j < l.length) : endB (l[i]'(by omega)) ≤ l[j].1 := by
 induction j with
 | zero => omega
 | succ j ih =>
  have h1 := h.2 j hj
  rcases Nat.lt_or_ge i j with h2 | h2
  ·have h3 := ih h2 (by omega)
   have h4 := h.bd j (by omega)
   unfold endB at h1 h3 ⊢
   omega
  ·obtain rfl : i = j := by omega
   exact h1
theorem sampAt_left {l1 l2 : List (Int × List Int)} {t : Int} (h : ∀ b ∈ l1, ¬ (b.1 ≤ t ∧ t < endB b)) : sampAt (l1 ++ l2) t = sampAt l2 t := by
 induction l1 with
 | nil => rfl
 | cons b l ih =>
  rw [List.cons_append, sampAt, if_neg (h b (by simp))]
  exact ih (fun b hb => h b (by simp [hb]))
theorem sampAt_right {l1 l2 : List (Int × List Int)} {t : Int} (h : ∀ b ∈ l2, ¬ (b.1 ≤ t ∧ t < endB b)) : sampAt (l1 ++ l2) t = sampAt l1 t := by
 induction l1 with
 | nil =>
  rw [List.nil_append]
  exact sampAt_none (fun j hj => h _ (List.getElem_mem hj))
 | cons b l ih =>
  rw [List.cons_append, sampAt, sampAt, ih]
theorem sampAt_snoc {l : List (Int × List Int)} (h : Apart l) {k : Nat} (hk : k < l.length) (t : Int) : sampAt (l.take (k + 1)) t = if (l[k].1 ≤ t ∧ t < endB l[k]) then l[k].2.getD (t - l[k].1).toNat 0 else sampAt (l.take k) t := by
 rw [List.take_succ_eq_append_getElem hk]
 by_cases hc : (l[k].1 ≤ t ∧ t < endB l[k])
 ·rw [if_pos hc, sampAt_left, sampAt, if_pos hc]
  intro b hb hcb
  obtain ⟨i, hi, rfl⟩ := List.mem_iff_getElem.1 hb
  have hik : i < k := by simp at hi; omega
  have := h.lt hik hk
  rw [List.getElem_take] at hcb
  omega
 ·rw [if_neg hc, sampAt_right]
  intro b hb
  simp at hb
  subst hb
  exact hc
def winP (l : List (Int × List Int)) (k : Nat) (a : Int) (b : Int × List Int) (T : Int) (i : Nat) : Int := if b.1 ≤ a + i ∧ a + i < T then b.2.getD (a + i - b.1).toNat 0 else sampAt (l.take k) (a + i)
def winF (l : List (Int × List Int)) (a : Int) (i : Nat) : Int := sampAt l (a + i)
theorem winP_start {l : List (Int × List Int)} {k n : Nat} {a T : Int} {b : Int × List Int} (h : T ≤ a ∨ T ≤ b.1) : fullL (winP l k a b T) n = fullL (winF (l.take k) a) n :=
 fullL_congr (fun i hi => by unfold winP winF; rw [if_neg (by omega)])
theorem winP_step {l : List (Int × List Int)} {k n : Nat} {a T : Int} {b : Int × List Int} {j : Nat} (hj : a + j = T) (hb : b.1 ≤ T) (hn : j < n) : (fullL (winP l k a b T) n).set j (b.2.getD (T - b.1).toNat 0) = fullL (winP l k a b (T + 1)) n := by
 apply List.ext_getElem (by simp [fullL])
 intro i h1 h2
 rw [List.getElem_set, fullL_get]
 simp only [fullL_get]
 unfold winP
 by_cases e : j = i
 ·subst e
  rw [if_pos rfl, if_pos (by omega), hj]
 ·rw [if_neg e]
  by_cases h3 : b.1 ≤ a + i ∧ a + i < T
  ·rw [if_pos h3, if_pos (by omega)]
  ·rw [if_neg h3, if_neg (by omega)]
theorem winP_end {l : List (Int × List Int)} (h : Apart l) {k n : Nat} (hk : k < l.length) {a T : Int} (hT : a + n ≤ T ∨ endB l[k] ≤ T) (hT2 : T ≤ endB l[k] ∨ T ≤ a) : fullL (winP l k a l[k] T) n = fullL (winF (l.take (k + 1)) a) n :=
 fullL_congr (fun i hi => by
  unfold winP winF
  rw [sampAt_snoc h hk]
  by_cases h3 : l[k].1 ≤ a + i ∧ a + i < T
  ·rw [if_pos h3, if_pos (by first | omega | (unfold endB at *; omega))]
  ·rw [if_neg h3, if_neg (by first | omega | (unfold endB at *; omega))])
set_option maxHeartbeats 8000000 in
theorem window_any (A : Option Addr) (c : Nat) (l : List (Int × List Int)) (a : Int) (m : Nat) (w : World) (hx : RB w A l) (hA : Apart l) (hl : l.length ≤ 64) (ha1 : -2000000 ≤ a) (ha2 : a ≤ 3000000) (hm : m ≤ 256) :
 Calls Tryz.prog 74 #[.slice A l.length c, .int .i64 a, .int .i64 (m : Int)] w fun e w' => ∃ g, e = .returned (.slice (some ⟨g, 0, none⟩) m m) ∧ w.heap.size ≤ g ∧ Blk w' g 3 ((fullL (winF l a) m).flatMap (encI .i64)).toArray ∧ Below w.heap.size w w' := by
 have HA := Lib.hid hA
 clear hA
 obtain ⟨i0, hi0, hz0, hz1, hz2⟩ := info_parts info_int
 have hmk := mk_row (P := Tryz.prog) 22 3 Tryz.underlying22 hi0 hz0 hz1 hz2 (encI .i64) (encI_len .i64) (by omega) 0 rfl m (by omega) (by omega)
 go_enter Tryz.func74, Tryz.ntmps74
 go_wp2
 go_loopg [9, 10, 15] l.length (fun gk _ _ i wr => ∃ k : Nat, k + gk = l.length ∧ i = .int .i64 k ∧ Blk wr w.heap.size 3 ((fullL (winF (l.take k) a) m).flatMap (encI .i64)).toArray ∧ Below w.heap.size w wr)
 case atStart =>
  refine ⟨0, by omega, rfl, ?_, balloc (Below.refl _ _) _⟩
  have e : fullL (winF (l.take 0) a) m = List.replicate m 0 := by
   apply List.ext_getElem (by simp [fullL])
   intro i h1 h2
   rw [fullL_get]
   simp [winF, sampAt]
  rw [e]
  exact Blk.new w _ _
 case round =>
  obtain ⟨k, hk, rfl, hO, hb⟩ := hrel
  have hk' : k ≤ l.length := by omega
  have HK := Lib.hid hk
  clear hk hmk
  have hsz := hb.size
  have hgO := hO.lt
  by_cases hlt : k < l.length
  ·obtain ⟨b1, off1, A1, c1, rfl, hlw, hw1, hw2, hr, hcap⟩ := hx.at_ hlt
   have hc1 := (hb.cell (p := ⟨b1, _, none⟩) hlw).trans hw1
   have hc2 := (hb.cell (p := ⟨b1, _, none⟩) hlw).trans hw2
   obtain ⟨p1, p2, p3, p4, _⟩ := HA.out.bd k hlt
   have hV := Blk.new wr 83 #[.int .i64 l[k].1, .slice A1 l[k].2.length c1]
   obtain ⟨wo, rfl⟩ : ∃ wo : World, wo = wr := ⟨_, rfl⟩
   obtain ⟨gu, rfl⟩ : ∃ gu : Nat, gu = gk := ⟨_, rfl⟩
   have hb' := balloc hb (.cells #[.int .i64 l[k].1, .slice A1 l[k].2.length c1] 83)
   have hO' := hO.alloc (.cells #[.int .i64 l[k].1, .slice A1 l[k].2.length c1] 83)
   go_wp2
   all_goals
    clear hc1 hc2
    go_loopg [10] 300 (fun ga s10 wq => ∃ (T : Int) (n : Nat), n + ga = 300 ∧ s10 = .int .i64 T ∧ a + n ≤ T ∧ l[k].1 ≤ T ∧ (T ≤ endB l[k] ∨ T ≤ a) ∧ Blk wq w.heap.size 3 ((fullL (winP l k a l[k] T) m).flatMap (encI .i64)).toArray ∧ Blk wq wo.heap.size 83 #[.int .i64 l[k].1, .slice A1 l[k].2.length c1] ∧ Below w.heap.size w wq)
    case atStart => exact ⟨_, 0, by omega, rfl, by omega, by omega, by unfold endB; omega, by rw [winP_start (by omega)]; exact hO', hV, hb'⟩
    case round =>
     obtain ⟨T, n, hn, rfl, hT1, hT2, hT3, hO2, hV2, hb2⟩ := hrel
     unfold endB at hT3
     have hn' : n ≤ 300 := by omega
     have HN := Lib.hid hn
     clear hn
     have v0 : World.cell? wr ⟨wo.heap.size, 0, none⟩ = some (.int .i64 l[k].1) := hV2.cell 0
     have vf0 := hV2.frozen 0
     have v1 : World.cell? wr ⟨wo.heap.size, 1, none⟩ = some (.slice A1 l[k].2.length c1) := hV2.cell 1
     have vf1 := hV2.frozen 1
     have vfl := hV2.lt
     have hbs := hb2.size
     by_cases hin : T < a + m ∧ T < l[k].1 + l[k].2.length
     ·obtain ⟨hin1, hin2⟩ := hin
      have hjn : (T - l[k].1).toNat < l[k].2.length := by omega
      have hjm : (T - a).toNat < m := by omega
      go_wp2_with fail
      refine (end_any l[k].1 A1 l[k].2.length c1 _ (by omega) (by omega) (by omega)).mono ?_
      rintro _ w2 ⟨rfl, hb3⟩
      have hO3 := hO2.keep hb3
      have hV3 := hV2.keep hb3
      have hB3 := bstep hb2 hb3
      have hr3 := hr.keep hB3
      clear v0 v1 vf0 vf1 vfl hb3
      have v0 : World.cell? w2 ⟨wo.heap.size, 0, none⟩ = some (.int .i64 l[k].1) := hV3.cell 0
      have vf0 := hV3.frozen 0
      have v1 : World.cell? w2 ⟨wo.heap.size, 1, none⟩ = some (.slice A1 l[k].2.length c1) := hV3.cell 1
      have vf1 := hV3.frozen 1
      have vfl := hV3.lt
      obtain ⟨b2, off2, rfl, hlw2, hw3⟩ := hr3.at2 hjn
      have o0 := blkI_at hO3 (j := (T - a).toNat) (by rw [fullL_len]; exact hjm)
      have of0 := hO3.frozen (T - a).toNat
      have hgl := hO3.lt
      have HS := Lib.hid (winP_step (l := l) (k := k) (n := m) (a := a) (T := T) (b := l[k]) (j := (T - a).toNat) (by omega) hT2 hjm)
      rw [getD_lt _ _ hjn] at hw3
      have hne : ¬ w.heap.size = wo.heap.size := by omega
      have hne2 : ¬ wo.heap.size = w.heap.size := by omega
      go_wp2
      all_goals
       go_roundg (gk - 1)
       case rel =>
        refine ⟨T + 1, n + 1, by have := HN.out; omega, by go_num, by omega, by omega, by unfold endB; omega, ?_, ?_, ?_⟩
        ·rw [← HS.out, getD_lt _ _ hjn]
         exact blkI_set hO3 (by rw [fullL_len]; exact hjm) _
        ·exact hV3.far (p := ⟨w.heap.size, _, none⟩) hne2 _
        ·exact hB3.setCell (p := ⟨w.heap.size, _, none⟩) (Nat.le_refl _) _
       case measure => have := HN.out; omega
     ·go_wp2_with fail
      refine (end_any l[k].1 A1 l[k].2.length c1 _ (by omega) (by omega) (by omega)).mono ?_
      rintro _ w2 ⟨rfl, hb3⟩
      have hO3 := hO2.keep hb3
      have hB3 := bstep hb2 hb3
      rw [winP_end HA.out hlt (by unfold endB; omega) (by unfold endB; omega)] at hO3
      go_wp2
      all_goals
       go_roundg (gu - 1)
       case rel => exact ⟨k + 1, by have := HK.out; omega, by go_num, hO3, hB3⟩
       case measure => have := HK.out; omega
  ·obtain rfl : k = l.length := by omega
   rw [List.take_length] at hO
   go_wp2
   go_ret
   exact ⟨_, rfl, Nat.le_refl _, hO, hb⟩
end Aln
end Go.Proofs.YtelkokcnedbmeaaGreat
namespace Go.Proofs.YtelkokcnedbmeaaGreat
open Go.RowKit
set_option maxRecDepth 20000
set_option linter.unusedVariables false
namespace Aln
def winSpec (l : List (Int × List Int)) (a m : Int) : List Int × Int := if recErr l ≠ 0 then ([], recErr l) else if winB a m then (fullL (winF l a) m.toNat, 0) else ([], 2)
theorem win_err {l : List (Int × List Int)} {a m : Int} (h : ¬ recErr l = 0) : winSpec l a m = ([], recErr l) := by simp [winSpec, h]
theorem win_arg {l : List (Int × List Int)} {a m : Int} (h : recErr l = 0) (h2 : winB a m = false) : winSpec l a m = ([], 2) := by simp [winSpec, h, h2]
theorem win_ok {l : List (Int × List Int)} {a : Int} {m : Nat} (h : recErr l = 0) (h2 : winB a m = true) : winSpec l a m = (fullL (winF l a) m, 0) := by simp [winSpec, h, h2]
set_option maxHeartbeats 4000000 in
theorem alignWindow_any (A : Option Addr) (c : Nat) (l : List (Int × List Int)) (a m : Int) (w : World) (hx : RB w A l) (hl : l.length ≤ 140737488355328) (hall : ∀ b ∈ l, b.2.length ≤ 140737488355328) :
 Calls Tryz.prog 37 #[.slice A l.length c, .int .i64 a, .int .i64 m] w (RetI 3 w (winSpec l a m)) := by
 rcases (Decidable.em (recErr l = 0)).symm with he | he
 ·have e1 : (recErr l != 0) = true := by simp [he]
  have HE := Lib.hid he
  clear he
  go_enter Tryz.func37, Tryz.ntmps37
  go_wp2_with fail
  refine (alignCheck_any _ _ _ _ hx hl hall).mono ?_
  rintro _ w1 ⟨rfl, hb1⟩
  go_wp2
  go_ret2
  exact RetI.nil (win_err HE.out) hb1
 have e1 : (recErr l != 0) = false := by simp [he]
 have HE := Lib.hid he
 have hl5 := (recErr_zero he).1
 clear he
 by_cases hm : winB a m = true
 ·have hbd := win_bd hm
  obtain ⟨n, rfl⟩ := Int.eq_ofNat_of_zero_le hbd.2.2.1
  have HM := Lib.hid hm
  go_enter Tryz.func37, Tryz.ntmps37
  go_wp2_with fail
  refine (alignCheck_any _ _ _ _ hx hl hall).mono ?_
  rintro _ w1 ⟨rfl, hb1⟩
  go_wp2_with fail
  refine (isWindow_any _ _ _).mono ?_
  rintro _ _ ⟨rfl, rfl⟩
  go_wp2_with fail
  refine (window_any _ _ _ a n _ (hx.keep hb1) (rec_apart HE.out) hl5 (by omega) (by omega) (by omega)).mono ?_
  rintro _ w2 ⟨g, rfl, hg, hB, hb2⟩
  have hs := hb1.size
  go_wp2
  go_ret2
  exact RetI.blk (win_ok HE.out HM.out) (fullL_len _ _) (by unfold maxLen; omega) hB (by omega) (bstep hb1 hb2)
 ·have hm' : winB a m = false := by simpa using hm
  have HM := Lib.hid hm'
  clear hm
  go_enter Tryz.func37, Tryz.ntmps37
  go_wp2_with fail
  refine (alignCheck_any _ _ _ _ hx hl hall).mono ?_
  rintro _ w1 ⟨rfl, hb1⟩
  go_wp2_with fail
  refine (isWindow_any _ _ _).mono ?_
  rintro _ _ ⟨rfl, rfl⟩
  go_wp2
  go_ret2
  exact RetI.nil (win_arg HE.out HM.out) hb1
end Aln
end Go.Proofs.YtelkokcnedbmeaaGreat
