/-
  Contract: fringeref14.SameGaps.
-/
import Derived.Test.YtbejkfeloffccaaAlignC
import Derived.Deep.QuietTactic
import Derived.BigQuiet
namespace Go.Proofs.Ytbejkfeloffccaa
open Go.RowKit
set_option linter.unusedVariables false

theorem plist_ne {xs ys : List (Int × Int)} {k : Nat} (h : xs.getD k (0, 0) ≠ ys.getD k (0, 0)) : decide (xs = ys) = false := by
  simp only [decide_eq_false_iff_not]
  intro e
  exact h (by rw [e])
theorem plist_eq {α : Type} {d : α} {xs ys : List α} (hl : xs.length = ys.length) (h : ∀ j, j < xs.length → xs.getD j d = ys.getD j d) : xs = ys := by
  apply List.ext_getElem hl
  intro j h1 h2
  have := h j h1
  simpa [List.getD_eq_getElem?_getD, List.getElem?_eq_getElem h1, List.getElem?_eq_getElem h2] using this

theorem eqg_gap : Try.prog.eqGuardType Try.prog.depth 69 = false := by kernel_rfl
theorem sih_gap : Try.prog.stoodInHeld 69 = false := by kernel_rfl
theorem und_gap : Try.prog.underlying 69 = some (.struct (Try.prog.fieldsOf 69)) := by kernel_rfl
theorem eq_gap (x0 x1 y0 y1 : Int) (w : World) : (Op.equalIn 10000 69 (.agg #[.int .i64 x0, .int .i64 x1]) (.agg #[.int .i64 y0, .int .i64 y1])).run Try.prog w = .ok (x0 == y0 && x1 == y1) w := by
  have e3 := Try.underlying3
  rw [run_equalIn_agg _ _ _ _ _ und_gap sih_gap]
  by_cases h0 : x0 = y0 <;> by_cases h1 : x1 = y1 <;> simp [go_sem, Try.underlying69, h0, h1]

theorem pair_ne {a b : Int × Int} (h : (!a.1 == b.1) = true ∨ (!a.2 == b.2) = true) : a ≠ b := by
  intro e; subst e; simp at h
theorem pair_eq {a b : Int × Int} (h : (!a.1 == b.1) = false ∧ (!a.2 == b.2) = false) : a = b := by
  simp at h; exact Prod.ext h.1 h.2

theorem sameGaps_any (A B : Option Addr) (c d : Nat) (xs ys : List (Int × Int)) (w : World) (hx : RL w A xs) (hy : RL w B ys) (hl : xs.length ≤ 140737488355328) (hl2 : ys.length ≤ 140737488355328) :
    Calls Try.prog 16 #[.slice A xs.length c, .slice B ys.length d] w fun e w' => e = .returned (.bool (decide (xs = ys))) ∧ ∃ n, w' = w.drewN n := by
  by_cases hlen : xs.length = ys.length
  · have h2 : ((xs.length : Int) != ys.length) = false := by simp; omega
    have hle : xs.length ≤ ys.length := by omega
    have HL := Lib.hid hlen
    clear hlen
    go_enter Try.func16, Try.ntmps16
    go_wp2
    go_loopg [5] xs.length (fun gk i wr => ∃ k n : Nat, k + gk = xs.length ∧ i = .int .i64 k ∧ wr = w.drewN n ∧ Hid (∀ j, j < k → xs.getD j (0, 0) = ys.getD j (0, 0)))
    case atStart => exact ⟨0, 0, by omega, rfl, rfl, Lib.hid (by simp)⟩
    case round =>
      obtain ⟨k, n, hk, rfl, rfl, hall⟩ := hrel
      have hk' : k ≤ xs.length := by omega
      have HK := Lib.hid hk
      clear hk
      by_cases hlt : k < xs.length
      · obtain ⟨b, off, rfl, _, hc, hd⟩ := hx.at_ hlt
        have hlt2 := Nat.lt_of_lt_of_le hlt hle
        obtain ⟨b2, off2, rfl, _, hc2, hd2⟩ := hy.at_ hlt2
        have g1 := eqg_gap
        have g2 := eq_gap
        go_wp2
        go_quiet (fail)
        go_wp2
        · have hv : (!xs[k].1 == ys[k].1) = true ∨ (!xs[k].2 == ys[k].2) = true := by assumption
          go_ret
          exact ⟨ret_bool (plist_ne (k := k) (by rw [getD_lt _ _ hlt, getD_lt _ _ hlt2]; exact pair_ne hv)).symm, n + nq, by first | rfl | rw [World.drewN_drewN]⟩
        · have hv : (!xs[k].1 == ys[k].1) = false ∧ (!xs[k].2 == ys[k].2) = false := by assumption
          go_roundg (gk - 1)
          case rel => exact ⟨k + 1, _, by have := HK.out; omega, by go_num, rfl, Lib.hid (all_lt_succ hall.out (by rw [getD_lt _ _ hlt, getD_lt _ _ hlt2]; exact pair_eq hv))⟩
          case measure => have := HK.out; omega
      · go_wp2
        go_ret
        refine ⟨ret_bool ?_, _, rfl⟩
        symm
        rw [decide_eq_true_eq]
        exact plist_eq HL.out (fun j hj => hall.out j (by omega))
  · have h2 : ((xs.length : Int) != ys.length) = true := by simp; omega
    go_enter Try.func16, Try.ntmps16
    go_wp2
    go_ret
    exact ⟨ret_bool (by symm; simp; intro h; exact hlen (by rw [h])), 0, rfl⟩
end Go.Proofs.Ytbejkfeloffccaa
