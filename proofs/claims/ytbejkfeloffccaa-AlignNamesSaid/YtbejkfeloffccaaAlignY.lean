/-
  Contracts: fringeref14.At and Covers at any time.
-/
import Derived.Test.YtbejkfeloffccaaAlignX
namespace Go.Proofs.Ytbejkfeloffccaa
open Go.RowKit
set_option linter.unusedVariables false

theorem covB_no {l : List (Int × List Int)} {t : Int} (h : ∀ j (hj : j < l.length), ¬ (l[j].1 ≤ t ∧ t < endB l[j])) : covB l t = false := by
  rw [Bool.eq_false_iff]
  intro h2
  obtain ⟨m, hm, hc⟩ := covB_iff.1 h2
  obtain ⟨j, hj, rfl⟩ := List.mem_iff_getElem.1 hm
  exact h j hj hc
set_option maxHeartbeats 4000000 in
theorem at14_wide (A : Option Addr) (c : Nat) (l : List (Int × List Int)) (t : Int) (w : World) (hx : RB w A l) (he : recErr l = 0) (ht : -9223372036854775808 ≤ t ∧ t ≤ 9223372036854775807) :
    Calls Try.prog 33 #[.slice A l.length c, .int .i64 t] w fun e w' => e = .returned (.int .i64 (sampAt l t)) ∧ ∃ n, w' = w.drewN n := by
  have hl5 := (recErr_zero he).1
  have HE := Lib.hid he
  clear he
  go_enter Try.func33, Try.ntmps33
  go_wp2
  go_loopg [5] l.length (fun gk i wr => ∃ k n : Nat, k + gk = l.length ∧ i = .int .i64 k ∧ wr = w.drewN n ∧ Hid (∀ j (hj : j < l.length), j < k → ¬ (l[j].1 ≤ t ∧ t < endB l[j])))
  case atStart => exact ⟨0, 0, by omega, rfl, rfl, Lib.hid (by intro j hj h; omega)⟩
  case round =>
    obtain ⟨k, n, hk, rfl, rfl, hall⟩ := hrel
    have hk' : k ≤ l.length := by omega
    have HK := Lib.hid hk
    clear hk
    by_cases hlt : k < l.length
    · obtain ⟨b, off, A', c', rfl, hlw, hc1, hc2, hr, hcap⟩ := hx.at_ hlt
      obtain ⟨p1, p2, p3, p4, _⟩ := rec_bd HE.out k hlt
      have f7 : IntKind.i64.wrap (l[k].1 + (l[k].2.length : Int)) = l[k].1 + (l[k].2.length : Int) := IntWalk.i64_in _ (by omega)
      rcases (show (l[k].1 ≤ t ∧ t < l[k].1 + (l[k].2.length : Int)) ∨ ¬ l[k].1 ≤ t ∨ (l[k].1 ≤ t ∧ ¬ t < l[k].1 + (l[k].2.length : Int)) by omega) with hin | hin
      · obtain ⟨h1, h2⟩ := hin
        have d1 : decide (l[k].1 ≤ t) = true := decide_eq_true h1
        have d2 : decide (t < l[k].1 + (l[k].2.length : Int)) = true := decide_eq_true h2
        have hin : l[k].1 ≤ t ∧ t < endB l[k] := ⟨h1, by unfold endB; exact h2⟩
        have HIN := Lib.hid hin
        clear hin
        have f8 : IntKind.i64.wrap (t - l[k].1) = t - l[k].1 := IntWalk.i64_in _ (by omega)
        have hjn : (t - l[k].1).toNat < l[k].2.length := by omega
        obtain ⟨b2, off2, rfl, hlw2, hw2⟩ := hr.at2 hjn
        have HS : Hid (sampAt l t = (l[k].2)[(t - l[k].1).toNat]) := Lib.hid (by rw [sampAt_first hlt hall.out HIN.out, getD_lt _ _ hjn])
        rw [getD_lt _ _ hjn] at hw2
        have f9 : 0 ≤ t - l[k].1 := by omega
        have f10 : t - l[k].1 < l[k].2.length := by omega
        go_wp2
        go_quiet (fail)
        go_wp2
        go_quiet (fail)
        go_wp2
        go_ret
        refine ⟨ret_int HS.out.symm, ?_⟩
        simp only [World.drewN_drewN]
        exact ⟨_, rfl⟩
      · have HN : Hid (∀ j (hj : j < l.length), j < k + 1 → ¬ (l[j].1 ≤ t ∧ t < endB l[j])) := Lib.hid (by
          intro j hj hjk
          rcases Nat.lt_or_ge j k with h3 | h3
          · exact hall.out j hj h3
          · obtain rfl : j = k := by omega
            unfold endB; omega)
        rcases hin with h1 | ⟨h1, h2⟩
        · have d1 : decide (l[k].1 ≤ t) = false := decide_eq_false h1
          go_wp2
          go_quiet (fail)
          go_wp2
          go_roundg (gk - 1)
          case rel => exact ⟨k + 1, _, by have := HK.out; omega, by go_num, rfl, HN⟩
          case measure => have := HK.out; omega
        · have d1 : decide (l[k].1 ≤ t) = true := decide_eq_true h1
          have d2 : decide (t < l[k].1 + (l[k].2.length : Int)) = false := decide_eq_false h2
          go_wp2
          go_quiet (fail)
          go_wp2
          go_roundg (gk - 1)
          case rel => exact ⟨k + 1, _, by have := HK.out; omega, by go_num, rfl, HN⟩
          case measure => have := HK.out; omega
    · have HS := Lib.hid (sampAt_none (fun j hj => hall.out j hj (by omega)))
      go_wp2
      go_ret
      exact ⟨ret_int HS.out.symm, _, rfl⟩
set_option maxHeartbeats 4000000 in
theorem covers14_any (A : Option Addr) (c : Nat) (l : List (Int × List Int)) (t : Int) (w : World) (hx : RB w A l) (he : recErr l = 0) (ht : -9223372036854775808 ≤ t ∧ t ≤ 9223372036854775807) :
    Calls Try.prog 34 #[.slice A l.length c, .int .i64 t] w fun e w' => e = .returned (.bool (covB l t)) ∧ ∃ n, w' = w.drewN n := by
  have hl5 := (recErr_zero he).1
  have HE := Lib.hid he
  clear he
  go_enter Try.func34, Try.ntmps34
  go_wp2
  go_loopg [5] l.length (fun gk i wr => ∃ k n : Nat, k + gk = l.length ∧ i = .int .i64 k ∧ wr = w.drewN n ∧ Hid (∀ j (hj : j < l.length), j < k → ¬ (l[j].1 ≤ t ∧ t < endB l[j])))
  case atStart => exact ⟨0, 0, by omega, rfl, rfl, Lib.hid (by intro j hj h; omega)⟩
  case round =>
    obtain ⟨k, n, hk, rfl, rfl, hall⟩ := hrel
    have hk' : k ≤ l.length := by omega
    have HK := Lib.hid hk
    clear hk
    by_cases hlt : k < l.length
    · obtain ⟨b, off, A', c', rfl, hlw, hc1, hc2, hr, hcap⟩ := hx.at_ hlt
      obtain ⟨p1, p2, p3, p4, _⟩ := rec_bd HE.out k hlt
      have f7 : IntKind.i64.wrap (l[k].1 + (l[k].2.length : Int)) = l[k].1 + (l[k].2.length : Int) := IntWalk.i64_in _ (by omega)
      rcases (show (l[k].1 ≤ t ∧ t < l[k].1 + (l[k].2.length : Int)) ∨ ¬ l[k].1 ≤ t ∨ (l[k].1 ≤ t ∧ ¬ t < l[k].1 + (l[k].2.length : Int)) by omega) with hin | hin
      · obtain ⟨h1, h2⟩ := hin
        have d1 : decide (l[k].1 ≤ t) = true := decide_eq_true h1
        have d2 : decide (t < l[k].1 + (l[k].2.length : Int)) = true := decide_eq_true h2
        have hin : l[k].1 ≤ t ∧ t < endB l[k] := ⟨h1, by unfold endB; exact h2⟩
        have HIN := Lib.hid hin
        clear hin
        have HS : Hid (covB l t = true) := Lib.hid (covB_iff.2 ⟨_, List.getElem_mem hlt, HIN.out⟩)
        go_wp2
        go_quiet (fail)
        go_wp2
        go_ret
        refine ⟨ret_bool HS.out.symm, ?_⟩
        simp only [World.drewN_drewN]
        exact ⟨_, rfl⟩
      · have HN : Hid (∀ j (hj : j < l.length), j < k + 1 → ¬ (l[j].1 ≤ t ∧ t < endB l[j])) := Lib.hid (by
          intro j hj hjk
          rcases Nat.lt_or_ge j k with h3 | h3
          · exact hall.out j hj h3
          · obtain rfl : j = k := by omega
            unfold endB; omega)
        rcases hin with h1 | ⟨h1, h2⟩
        · have d1 : decide (l[k].1 ≤ t) = false := decide_eq_false h1
          go_wp2
          go_quiet (fail)
          go_wp2
          go_roundg (gk - 1)
          case rel => exact ⟨k + 1, _, by have := HK.out; omega, by go_num, rfl, HN⟩
          case measure => have := HK.out; omega
        · have d1 : decide (l[k].1 ≤ t) = true := decide_eq_true h1
          have d2 : decide (t < l[k].1 + (l[k].2.length : Int)) = false := decide_eq_false h2
          go_wp2
          go_quiet (fail)
          go_wp2
          go_roundg (gk - 1)
          case rel => exact ⟨k + 1, _, by have := HK.out; omega, by go_num, rfl, HN⟩
          case measure => have := HK.out; omega
    · have HS := Lib.hid (covB_no (fun j hj => hall.out j hj (by omega)))
      go_wp2
      go_ret
      exact ⟨ret_bool HS.out.symm, _, rfl⟩
end Go.Proofs.Ytbejkfeloffccaa
