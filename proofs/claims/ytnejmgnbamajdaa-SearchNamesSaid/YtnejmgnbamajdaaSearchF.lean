/-
  Contracts: search.size, search.cell.isBetter, fringeref20.Same.
-/
import Derived.Test.YtnejmgnbamajdaaSearchE
namespace Go.Proofs.Ytnejmgnbamajdaa
open Go.RowKit
set_option linter.unusedVariables false

def absI (d : Int) : Int := if 0 ≤ d then d else -d
theorem size_any (d : Int) (w : World) (h1 : -1000 ≤ d) (h2 : d ≤ 1000) : Calls Try.prog 42 #[.int .i64 d] w fun e w' => e = .returned (.int .i64 (absI d)) ∧ w = w' := by
  go_enter Try.func42, Try.ntmps42
  go_wp2
  all_goals go_ret
  all_goals exact ⟨ret_int (by unfold absI; split <;> omega), rfl⟩
/-- c comes before d among the best cells. -/
def betterB (c d : Cl) : Bool := if c.pw ≠ d.pw then decide (d.pw < c.pw) else if absI c.d ≠ absI d.d then decide (absI c.d < absI d.d) else if c.d ≠ d.d then decide (c.d < d.d) else decide (c.r < d.r)
theorem isBetter_any (c d : Cl) (w : World) (h1 : -1000 ≤ c.d) (h2 : c.d ≤ 1000) (h3 : -1000 ≤ d.d) (h4 : d.d ≤ 1000) :
    Calls Try.prog 39 #[cellV c, cellV d] w fun e w' => e = .returned (.bool (betterB c d)) ∧ Below w.heap.size w w' := by
  obtain ⟨c0, c1, c2, c3, c4⟩ := c
  obtain ⟨d0, d1, d2, d3, d4⟩ := d
  simp only at h1 h2 h3 h4
  by_cases hp : c4 = d4
  · have ep : (c4 != d4) = false := by simp [hp]
    have HP := Lib.hid hp
    clear hp
    by_cases ha : absI c0 = absI d0
    · have ea : (absI c0 != absI d0) = false := by simp [ha]
      have HA := Lib.hid ha
      clear ha
      by_cases hd : c0 = d0
      · have ed : (c0 != d0) = false := by simp [hd]
        have HD := Lib.hid hd
        clear hd
        go_enter Try.func39, Try.ntmps39
        go_wp2
        go_quiet ((go_at_call 42; exact quiet_left (size_any _ _ (by omega) (by omega))))
        go_wp2
        go_ret
        exact ⟨ret_bool (by simp [betterB, HP.out, HA.out, HD.out]), below_drewN (balloc (balloc (Below.refl _ _) _) _) _⟩
      · have ed : (c0 != d0) = true := by simp [hd]
        go_enter Try.func39, Try.ntmps39
        go_wp2
        go_quiet ((go_at_call 42; exact quiet_left (size_any _ _ (by omega) (by omega))))
        go_wp2
        go_ret
        exact ⟨ret_bool (by simp [betterB, HP.out, HA.out, hd]), below_drewN (balloc (balloc (Below.refl _ _) _) _) _⟩
    · have ea : (absI c0 != absI d0) = true := by simp [ha]
      go_enter Try.func39, Try.ntmps39
      go_wp2
      go_quiet ((go_at_call 42; exact quiet_left (size_any _ _ (by omega) (by omega))))
      go_wp2
      go_quiet ((go_at_call 42; exact quiet_add_left (size_any _ _ (by omega) (by omega))))
      go_wp2
      go_ret
      exact ⟨ret_bool (by simp [betterB, HP.out, ha]), below_drewN (below_drewN (balloc (balloc (Below.refl _ _) _) _) _) _⟩
  · have ep : (c4 != d4) = true := by simp [hp]
    go_enter Try.func39, Try.ntmps39
    go_wp2
    go_ret
    exact ⟨ret_bool (by simp [betterB, hp]), balloc (balloc (Below.refl _ _) _) _⟩

theorem eqg_cell : Try.prog.eqGuardType Try.prog.depth 32 = false := by kernel_rfl
theorem sih_cell : Try.prog.stoodInHeld 32 = false := by kernel_rfl
theorem und_cell : Try.prog.underlying 32 = some (.struct (Try.prog.fieldsOf 32)) := by kernel_rfl
theorem eq_cell (x0 x1 x2 x3 x4 y0 y1 y2 y3 y4 : Int) (w : World) : (Op.equalIn 10000 32 (.agg #[.int .i64 x0, .int .i64 x1, .int .i64 x2, .int .i64 x3, .int .i64 x4]) (.agg #[.int .i64 y0, .int .i64 y1, .int .i64 y2, .int .i64 y3, .int .i64 y4])).run Try.prog w = .ok (x0 == y0 && (x1 == y1 && ((x2 == y2 && x3 == y3) && x4 == y4))) w := by
  have e3 := Try.underlying2
  have e4 := Try.underlying3
  have g := eq_gauss x2 x3 y2 y3
  rw [run_equalIn_agg _ _ _ _ _ und_cell sih_cell]
  by_cases h0 : x0 = y0
  · by_cases h1 : x1 = y1
    · by_cases h2 : x2 = y2
      · by_cases h3 : x3 = y3
        · by_cases h4 : x4 = y4 <;> simp [go_sem, Try.underlying32, h0, h1, h2, h3, h4, g]
        · simp [go_sem, Try.underlying32, h0, h1, h2, h3, g]
      · simp [go_sem, Try.underlying32, h0, h1, h2, g]
    · simp [go_sem, Try.underlying32, h0, h1]
  · simp [go_sem, Try.underlying32, h0]
theorem eq_cellD (c d : Cl) (w : World) : (Op.equalIn 10000 32 (cellV c) (cellV d)).run Try.prog w = .ok (decide (c = d)) w := by
  have h : decide (c = d) = (c.d == d.d && (c.r == d.r && ((c.re == d.re && c.im == d.im) && c.pw == d.pw))) := by
    obtain ⟨c0, c1, c2, c3, c4⟩ := c
    obtain ⟨d0, d1, d2, d3, d4⟩ := d
    rw [Bool.eq_iff_iff]
    simp
    intro _ _
    rw [and_assoc]
  rw [h]
  exact eq_cell _ _ _ _ _ _ _ _ _ _ w

theorem encC_at {w : World} {b off k : Nat} {C : Cl} (h : ∀ i, i < 5 → w.cell? ⟨b, off + k * 5 + i, none⟩ = (encC C)[i]?) :
    w.cell? ⟨b, off + k * 5, none⟩ = some (.int .i64 C.d) ∧ w.cell? ⟨b, off + k * 5 + 1, none⟩ = some (.int .i64 C.r) ∧ w.cell? ⟨b, off + k * 5 + 2, none⟩ = some (.int .i64 C.re) ∧ w.cell? ⟨b, off + k * 5 + 3, none⟩ = some (.int .i64 C.im) ∧ w.cell? ⟨b, off + k * 5 + 4, none⟩ = some (.int .i64 C.pw) :=
  ⟨h 0 (by omega), h 1 (by omega), h 2 (by omega), h 3 (by omega), h 4 (by omega)⟩
set_option maxHeartbeats 1000000 in
theorem sameCells_any (A B : Option Addr) (c d : Nat) (xs ys : List Cl) (w : World) (hx : RR encC 5 w A xs) (hy : RR encC 5 w B ys) (hl : xs.length ≤ 140737488355328) (hl2 : ys.length ≤ 140737488355328) :
    Calls Try.prog 23 #[.slice A xs.length c, .slice B ys.length d] w fun e w' => e = .returned (.bool (decide (xs = ys))) ∧ ∃ n, w' = w.drewN n := by
  by_cases hlen : xs.length = ys.length
  · have h2 : ((xs.length : Int) != ys.length) = false := by simp; omega
    have hle : xs.length ≤ ys.length := by omega
    have HL := Lib.hid hlen
    clear hlen
    go_enter Try.func23, Try.ntmps23
    go_wp2
    go_loopg [5] xs.length (fun gk i wr => ∃ k n : Nat, k + gk = xs.length ∧ i = .int .i64 k ∧ wr = w.drewN n ∧ Hid (∀ j, j < k → xs.getD j zeroC = ys.getD j zeroC))
    case atStart => exact ⟨0, 0, by omega, rfl, rfl, Lib.hid (by simp)⟩
    case round =>
      obtain ⟨k, n, hk, rfl, rfl, hall⟩ := hrel
      have hk' : k ≤ xs.length := by omega
      have HK := Lib.hid hk
      clear hk
      by_cases hlt : k < xs.length
      · obtain ⟨b, off, rfl, _, hcs⟩ := hx.at_ hlt
        have hlt2 := Nat.lt_of_lt_of_le hlt hle
        obtain ⟨b2, off2, rfl, _, hcs2⟩ := hy.at_ hlt2
        obtain ⟨a0, a1, a2, a3, a4⟩ := encC_at hcs
        obtain ⟨b0, b1, b2, b3, b4⟩ := encC_at hcs2
        clear hcs hcs2
        have g1 := eqg_cell
        have g2 := eq_cellD xs[k] ys[k]
        by_cases hv : xs[k] = ys[k]
        · have dv : decide (xs[k] = ys[k]) = true := by simpa using hv
          have HV := Lib.hid hv
          clear hv
          go_wp2
          go_quiet (fail)
          go_wp2
          go_roundg (gk - 1)
          case rel => exact ⟨k + 1, _, by have := HK.out; omega, by go_num, rfl, Lib.hid (all_lt_succ hall.out (by rw [getD_lt _ _ hlt, getD_lt _ _ hlt2]; exact HV.out))⟩
          case measure => have := HK.out; omega
        · have dv : decide (xs[k] = ys[k]) = false := by simpa using hv
          have HV := Lib.hid hv
          clear hv
          go_wp2
          go_quiet (fail)
          go_wp2
          go_ret
          exact ⟨ret_bool (plist_ne (k := k) (d := zeroC) (by rw [getD_lt _ _ hlt, getD_lt _ _ hlt2]; exact HV.out)).symm, n + nq, by first | rfl | rw [World.drewN_drewN]⟩
      · go_wp2
        go_ret
        refine ⟨ret_bool ?_, _, rfl⟩
        symm
        rw [decide_eq_true_eq]
        exact plist_eq HL.out (fun j hj => hall.out j (by omega))
  · have h2 : ((xs.length : Int) != ys.length) = true := by simp; omega
    go_enter Try.func23, Try.ntmps23
    go_wp2
    go_ret
    exact ⟨ret_bool (by symm; simp; intro h; exact hlen (by rw [h])), 0, rfl⟩
end Go.Proofs.Ytnejmgnbamajdaa
