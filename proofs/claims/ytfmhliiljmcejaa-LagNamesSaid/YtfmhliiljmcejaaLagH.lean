/-
  Contract: lag.Peak.
-/
import Derived.Test.YtfmhliiljmcejaaLagG
namespace Go.Proofs.Ytfmhliiljmcejaa
open Go.RowKit
set_option linter.unusedVariables false

def qd (l : List (Int × Int)) (i : Nat) : Int := ((i : Int) - (l.length : Int) / 2) * ((i : Int) - (l.length : Int) / 2)
theorem aheadB_iff (l : List (Int × Int)) (i k : Nat) : aheadB l i k = true ↔ ((l.getD k (0, 0)).1 < (l.getD i (0, 0)).1 ∨ ((l.getD k (0, 0)).1 = (l.getD i (0, 0)).1 ∧ (qd l i < qd l k ∨ (qd l i = qd l k ∧ i < k)))) := by
  unfold aheadB
  simp only [show ((i : Int) - (l.length : Int) / 2) * ((i : Int) - (l.length : Int) / 2) = qd l i from rfl, show ((k : Int) - (l.length : Int) / 2) * ((k : Int) - (l.length : Int) / 2) = qd l k from rfl]
  split
  · simp only [decide_eq_true_eq]; omega
  · split
    · simp only [decide_eq_true_eq]; omega
    · simp only [decide_eq_true_eq]; omega
theorem ahead_no {l : List (Int × Int)} {i k : Nat} : aheadB l i k = false ↔ ¬ ((l.getD k (0, 0)).1 < (l.getD i (0, 0)).1 ∨ ((l.getD k (0, 0)).1 = (l.getD i (0, 0)).1 ∧ (qd l i < qd l k ∨ (qd l i = qd l k ∧ i < k)))) := by
  rw [← aheadB_iff]; simp
theorem ahead_irr (l : List (Int × Int)) (i : Nat) : aheadB l i i = false := by rw [ahead_no]; omega
theorem ahead_tr {l : List (Int × Int)} {i j k : Nat} (h1 : aheadB l i j = true) (h2 : aheadB l k j = false) : aheadB l k i = false := by
  rw [aheadB_iff] at h1; rw [ahead_no] at h2 ⊢; omega
theorem ahead_eq {l : List (Int × Int)} {i k : Nat} (h1 : aheadB l i k = false) (h2 : aheadB l k i = false) : i = k := by
  rw [ahead_no] at h1 h2; omega
theorem best_all (l : List (Int × Int)) (k : Nat) : ∀ j, j < k → aheadB l j (bestIx l k) = false := by
  induction k with
  | zero => intro j hj; omega
  | succ k ih =>
    intro j hj
    cases h : aheadB l k (bestIx l k) with
    | true =>
      rw [bestIx_yes h]
      rcases Nat.lt_or_ge j k with h1 | h1
      · exact ahead_tr h (ih j h1)
      · obtain rfl : j = k := by omega
        exact ahead_irr l j
    | false =>
      rw [bestIx_no h]
      rcases Nat.lt_or_ge j k with h1 | h1
      · exact ih j h1
      · obtain rfl : j = k := by omega
        exact h
theorem best_uniq {l : List (Int × Int)} {b : Nat} (hb : b < l.length) (h : ∀ j, j < l.length → aheadB l j b = false) : bestIx l l.length = b := by
  have h1 := bestIx_le l l.length
  exact ahead_eq (h _ (by omega)) (best_all l _ b hb)

theorem step_yes {l : List (Int × Int)} {P : Nat → Prop} {b c : Nat} (h : ∀ j, P j → aheadB l j b = false) (hc : aheadB l c b = true) : ∀ j, P j ∨ j = c → aheadB l j c = false := by
  intro j hj
  rcases hj with hj | rfl
  · exact ahead_tr hc (h j hj)
  · exact ahead_irr _ _
theorem step_no {l : List (Int × Int)} {P : Nat → Prop} {b c : Nat} (h : ∀ j, P j → aheadB l j b = false) (hc : aheadB l c b = false) : ∀ j, P j ∨ j = c → aheadB l j b = false := by
  intro j hj
  rcases hj with hj | rfl
  · exact h j hj
  · exact hc
theorem sq_lt {x y : Int} (h : x.natAbs < y.natAbs) : x * x < y * y := by
  rw [← Int.natAbs_mul_self, ← Int.natAbs_mul_self]
  exact Int.ofNat_lt.2 (Nat.mul_self_lt_mul_self h)
theorem sq_eq {x y : Int} (h : x.natAbs = y.natAbs) : x * x = y * y := by
  rw [← Int.natAbs_mul_self, ← Int.natAbs_mul_self, h]
/-- An index further from the middle goes ahead just if its sum is greater. -/
theorem far_yes {l : List (Int × Int)} {b c : Nat} (h1 : b < l.length) (h2 : c < l.length) (h : l[b].1 < l[c].1) : aheadB l c b = true := by
  rw [aheadB_iff, getD_lt _ _ h1, getD_lt _ _ h2]; exact .inl h
theorem far_no {l : List (Int × Int)} {b c : Nat} (h1 : b < l.length) (h2 : c < l.length) (h : l[c].1 ≤ l[b].1) (hq : ((b : Int) - (l.length : Int) / 2).natAbs < ((c : Int) - (l.length : Int) / 2).natAbs ∨ (((b : Int) - (l.length : Int) / 2).natAbs = ((c : Int) - (l.length : Int) / 2).natAbs ∧ b < c)) : aheadB l c b = false := by
  rw [ahead_no, getD_lt _ _ h1, getD_lt _ _ h2]
  rcases hq with hq | ⟨hq, h3⟩
  · have : qd l b < qd l c := sq_lt hq
    omega
  · have : qd l b = qd l c := sq_eq hq
    omega

theorem peak_fin {l : List (Int × Int)} {m D x y t t' : Nat} (hD : D < m) (h : ∀ j : Nat, ((-(D : Int) ≤ (j : Int) - m ∧ (j : Int) - m ≤ D) ∨ j = x) ∨ j = y → aheadB l j t = false) (hx : x = m - (D + 1)) (hy : y = m + (D + 1)) (ht : t' = t) :
    ∀ j : Nat, (-((D + 1 : Nat) : Int) ≤ (j : Int) - m ∧ (j : Int) - m ≤ ((D + 1 : Nat) : Int)) → aheadB l j t' = false := by
  intro j hj
  rw [ht]
  exact h j (by omega)

theorem pair_eta {p : Int × Int} : p = (p.1, p.2) := rfl

theorem sumN_zero {l : List (Int × Int)} {k : Nat} (h : ∀ x ∈ l, okLag x = true) (hk : k < l.length) : ((sumP (l.take (k + 1))).2 = 0 ↔ (sumP (l.take k)).2 = 0 ∧ l[k].2 = 0) := by
  have h1 := sumP_bd h k (by omega)
  have h2 := okLag_bd (h _ (List.getElem_mem hk))
  rw [sumP_take hk]
  simp only []
  omega

theorem lagPeak_any (A : Option Addr) (c : Nat) (l : List (Int × Int)) (w : World) (hx : RL w A l) (hl : l.length ≤ 140737488355328) :
    Calls Try.prog 26 #[.slice A l.length c] w fun e w' => e = .returned (.tuple #[.int .i64 (peakSpec l).1, .int .i64 (peakSpec l).2]) ∧ Below w.heap.size w w' := by
  rcases (Decidable.em (lagErr l = 0)).symm with he | he
  · have e1 : (lagErr l != 0) = true := by simp [he]
    have HE := Lib.hid he
    clear he
    go_enter Try.func26, Try.ntmps26
    go_wp2_with fail
    refine (lagCheck_any _ _ _ _ hx hl).mono ?_
    rintro e w1 ⟨rfl, hb1⟩
    go_wp2
    go_ret2
    exact ⟨ret_pair (peak_err HE.out), hb1⟩
  have e1 : (lagErr l != 0) = false := by simp [he]
  have HE := Lib.hid he
  have hl5 := (lagErr_zero he).1
  obtain ⟨m, hm⟩ : ∃ m : Nat, l.length = 2 * m + 1 := ⟨l.length / 2, by have := (lagErr_zero he).2.1; omega⟩
  have HM := Lib.hid hm
  have hm1 : 2 * m < l.length := by omega
  have hm2 : l.length ≤ 2 * m + 1 := by omega
  clear he hm
  go_enter Try.func26, Try.ntmps26
  go_wp2_with fail
  refine (lagCheck_any _ _ _ _ hx hl).mono ?_
  rintro e w1 ⟨rfl, hb1⟩
  go_wp2
  go_loopg [5, 7, 18] l.length (fun gk z _ i wr => ∃ (k : Nat) (zb : Bool), k + gk = l.length ∧ i = .int .i64 k ∧ z = .bool zb ∧ Hid (zb = decide ((sumP (l.take k)).2 = 0)) ∧ Below w.heap.size w wr)
  case atStart => exact ⟨0, true, by omega, rfl, rfl, Lib.hid (by simp [sumP]), hb1⟩
  case round =>
    obtain ⟨k, zb, hk, rfl, rfl, hzb, hb⟩ := hrel
    have hk' : k ≤ l.length := by omega
    have HK := Lib.hid hk
    clear hk
    by_cases hlt : k < l.length
    · obtain ⟨b, off, rfl, _, hc1, hc2⟩ := (hx.keep hb).at_ hlt
      go_wp2
      · have hv : (l[k].2 != 0) = true := by assumption
        go_roundg (gk - 1)
        case rel => exact ⟨k + 1, false, by have := HK.out; omega, by go_num, rfl, Lib.hid (by symm; rw [decide_eq_false_iff_not, sumN_zero (lagErr_zero HE.out).2.2 hlt]; simp at hv; omega), hb.alloc hb.size _⟩
        case measure => have := HK.out; omega
      · have hv : (l[k].2 != 0) = false := by assumption
        go_roundg (gk - 1)
        case rel => exact ⟨k + 1, zb, by have := HK.out; omega, by go_num, rfl, Lib.hid (by rw [hzb.out]; apply decide_eq_decide.2; rw [sumN_zero (lagErr_zero HE.out).2.2 hlt]; simp at hv; simp [hv]), hb.alloc hb.size _⟩
        case measure => have := HK.out; omega
    · have h5 : l.take k = l := List.take_of_length_le (by omega)
      rw [h5] at hzb
      clear h5 hk' HK
      cases zb with
      | true =>
        go_wp2
        go_ret2
        exact ⟨ret_pair (peak_zero HE.out (by have := hzb.out; simpa using this.symm)), hb⟩
      | false =>
        obtain ⟨wo, rfl⟩ : ∃ wo : World, wo = wr := ⟨_, rfl⟩
        have hst : ∀ j : Nat, (-((0 : Nat) : Int) ≤ (j : Int) - m ∧ (j : Int) - m ≤ ((0 : Nat) : Int)) → aheadB l j ((l.length : Int) / 2 + 0).toNat = false := by
          intro j h1
          have h3 : ((l.length : Int) / 2 + 0).toNat = j := by omega
          rw [h3]; exact ahead_irr _ _
        have HST := Lib.hid hst
        clear hst
        go_wp2
        go_loopg [9, 10] (m + 1) (fun gk bs d wq => ∃ (D q : Nat) (z : Int), D + gk = m + 1 ∧ d = .int .i64 ((D : Int) + 1) ∧ bs = .int .i64 z ∧ -(D : Int) ≤ z ∧ z ≤ D ∧ D ≤ m ∧ Hid (∀ j : Nat, (-(D : Int) ≤ (j : Int) - m ∧ (j : Int) - m ≤ D) → aheadB l j ((l.length : Int) / 2 + z).toNat = false) ∧ wq = wo.drewN q)
        case atStart => exact ⟨0, 0, 0, by omega, rfl, rfl, by omega, by omega, by omega, HST, rfl⟩
        case round =>
          obtain ⟨D, q, z, hk, rfl, rfl, hz1, hz2, hDm, hall, rfl⟩ := hrel
          have HK := Lib.hid hk
          clear hk
          have hi2 : ((l.length : Int) / 2 + z).toNat < l.length := by omega
          by_cases hlt : D < m
          · have hi1 : l.length / 2 - (D + 1) < l.length := by omega
            have hi3 : l.length / 2 + (D + 1) < l.length := by omega
            obtain ⟨b, off, rfl, _, hc1, hc2⟩ := (hx.keep hb).at_ hi1
            obtain ⟨b', off', e, _, hd1, hd2⟩ := (hx.keep hb).at_ hi2
            obtain ⟨rfl, rfl⟩ : b = b' ∧ off = off' := by injection e with e; injection e with e1 e2; exact ⟨e1, e2⟩
            obtain ⟨b', off', e, _, hf1, hf2⟩ := (hx.keep hb).at_ hi3
            obtain ⟨rfl, rfl⟩ : b = b' ∧ off = off' := by injection e with e; injection e with e1 e2; exact ⟨e1, e2⟩
            clear e hc2 hd2 hf2
            have hi4 : ((l.length : Int) / 2 + -((D : Int) + 1)).toNat < l.length := by omega
            obtain ⟨b', off', e, _, hg1, hg2⟩ := (hx.keep hb).at_ hi4
            obtain ⟨rfl, rfl⟩ : b = b' ∧ off = off' := by injection e with e; injection e with e1 e2; exact ⟨e1, e2⟩
            clear e hg2
            have e14 : l.length / 2 - (D + 1) = ((l.length : Int) / 2 + -((D : Int) + 1)).toNat := by omega
            have E14 := Lib.hid e14
            clear e14
            go_wp2
            go_quiet (fail)
            go_wp2
            · have v1 : l[((l.length : Int) / 2 + z).toNat].1 < l[l.length / 2 - (D + 1)].1 := by assumption
              have V1 := Lib.hid (step_yes hall.out (far_yes hi2 hi1 v1))
              go_quiet (fail)
              go_wp2
              · have v2 : l[((l.length : Int) / 2 + -((D : Int) + 1)).toNat].1 < l[l.length / 2 + (D + 1)].1 := by assumption
                have V2 := Lib.hid (step_yes V1.out (by rw [E14.out]; exact far_yes hi4 hi3 v2))
                go_roundg (gk - 1)
                case rel => exact ⟨D + 1, _, (D : Int) + 1, by have := HK.out; omega, by go_num, rfl, by omega, by omega, by omega, Lib.hid (peak_fin hlt V2.out (by omega) (by omega) (by omega)), by first | rfl | rw [World.drewN_drewN]⟩
                case measure => have := HK.out; omega
              · have v2 : l[l.length / 2 + (D + 1)].1 ≤ l[((l.length : Int) / 2 + -((D : Int) + 1)).toNat].1 := by assumption
                have V2 := Lib.hid (step_no V1.out (by rw [E14.out]; exact far_no hi4 hi3 v2 (by omega)))
                go_roundg (gk - 1)
                case rel => exact ⟨D + 1, _, -((D : Int) + 1), by have := HK.out; omega, by go_num, rfl, by omega, by omega, by omega, Lib.hid (peak_fin hlt V2.out (by omega) (by omega) E14.out.symm), by first | rfl | rw [World.drewN_drewN]⟩
                case measure => have := HK.out; omega
            · have v1 : l[l.length / 2 - (D + 1)].1 ≤ l[((l.length : Int) / 2 + z).toNat].1 := by assumption
              have V1 := Lib.hid (step_no hall.out (far_no hi2 hi1 v1 (by omega)))
              go_quiet (fail)
              go_wp2
              · have v2 : l[((l.length : Int) / 2 + z).toNat].1 < l[l.length / 2 + (D + 1)].1 := by assumption
                have V2 := Lib.hid (step_yes V1.out (far_yes hi2 hi3 v2))
                go_roundg (gk - 1)
                case rel => exact ⟨D + 1, _, (D : Int) + 1, by have := HK.out; omega, by go_num, rfl, by omega, by omega, by omega, Lib.hid (peak_fin hlt V2.out (by omega) (by omega) (by omega)), by first | rfl | rw [World.drewN_drewN]⟩
                case measure => have := HK.out; omega
              · have v2 : l[l.length / 2 + (D + 1)].1 ≤ l[((l.length : Int) / 2 + z).toNat].1 := by assumption
                have V2 := Lib.hid (step_no V1.out (far_no hi2 hi3 v2 (by omega)))
                go_roundg (gk - 1)
                case rel => exact ⟨D + 1, _, z, by have := HK.out; omega, by go_num, rfl, by omega, by omega, by omega, Lib.hid (peak_fin hlt V2.out (by omega) (by omega) rfl), by first | rfl | rw [World.drewN_drewN]⟩
                case measure => have := HK.out; omega
          · go_wp2
            go_ret2
            have hu := best_uniq hi2 (fun j hj => hall.out j (by omega))
            refine ⟨ret_pair ?_, below_drewN hb q⟩
            rw [peak_ok HE.out (by have := hzb.out; simpa using this.symm), hu]
            congr 1
            omega
end Go.Proofs.Ytfmhliiljmcejaa
