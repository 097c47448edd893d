/-
  Contracts: search.Grid, fringeref20.Grid.
-/
import Derived.Test.YtnejmgnbamajdaaSearchD
namespace Go.Proofs.Ytnejmgnbamajdaa
open Go.RowKit
set_option linter.unusedVariables false

theorem info_cell : (Try.prog.info? 32).map (fun i => (i.zero, i.size, i.bytes)) = some (some (.agg #[.int .i64 0, .int .i64 0, .int .i64 0, .int .i64 0, .int .i64 0]), 5, 40) := by kernel_rfl
def encC (c : Cl) : List Value := [.int .i64 c.d, .int .i64 c.r, .int .i64 c.re, .int .i64 c.im, .int .i64 c.pw]
theorem encC_len (c : Cl) : (encC c).length = 5 := rfl
theorem encC_one (c : Cl) : ∀ u ∈ encC c, u.oneCell' = true := by simp [encC, Value.oneCell']
/-- The cell number t of a grid. -/
def gridAt (xs ys : List Int) (m : Int) (s : Int) (t : Nat) : Cl := cellS xs ys (((t / 4 : Nat) : Int) - m) ((t % 4 : Nat) : Int) s
def gridN (m : Int) : Nat := 4 * (2 * m.toNat + 1)
def gridSpec (xs ys : List Int) (m s : Int) : List Cl × Int := if askErr xs ys s ≠ 0 then ([], askErr xs ys s) else if 0 ≤ m ∧ m ≤ 32 then (fullL (gridAt xs ys m s) (gridN m), 0) else ([], 2)
theorem grid_err {xs ys : List Int} {m s : Int} (h : ¬ askErr xs ys s = 0) : gridSpec xs ys m s = ([], askErr xs ys s) := by simp [gridSpec, h]
theorem grid_arg {xs ys : List Int} {m s : Int} (h : askErr xs ys s = 0) (h2 : ¬ (0 ≤ m ∧ m ≤ 32)) : gridSpec xs ys m s = ([], 2) := by simp [gridSpec, h, h2]
theorem grid_ok {xs ys : List Int} {m s : Int} (h : askErr xs ys s = 0) (h2 : 0 ≤ m ∧ m ≤ 32) : gridSpec xs ys m s = (fullL (gridAt xs ys m s) (gridN m), 0) := by simp [gridSpec, h, h2]
theorem gridAt_mk {xs ys : List Int} {m : Int} {s : Int} {k j : Nat} (hj : j < 4) : gridAt xs ys m s (4 * k + j) = cellS xs ys ((k : Int) - m) (j : Int) s := by
  unfold gridAt
  have h1 : (4 * k + j) / 4 = k := by omega
  have h2 : (4 * k + j) % 4 = j := by omega
  rw [h1, h2]

set_option maxHeartbeats 4000000 in
theorem searchGrid_any (A B : Option Addr) (c e : Nat) (xs ys : List Int) (most s : Int) (w : World) (hx : RI .i64 w A xs) (hy : RI .i64 w B ys) (hl : xs.length ≤ 140737488355328) (hl2 : ys.length ≤ 140737488355328) :
    Calls Try.prog 19 #[.slice A xs.length c, .slice B ys.length e, .int .i64 most, .int .i64 s] w (RetR encC 5 32 w (gridSpec xs ys most s)) := by
  have hask := check20_any A B c e xs ys s w hx hy hl hl2
  rcases (Decidable.em (askErr xs ys s = 0)).symm with he | he
  · have e1 : (askErr xs ys s != 0) = true := by simp [he]
    have HE := Lib.hid he
    clear he
    go_enter Try.func19, Try.ntmps19
    go_wp2_with (with_reducible refine hask.mono ?_; rintro e w' ⟨rfl, rfl⟩)
    go_ret2
    exact RetR.nil (grid_err HE.out) (Below.refl _ _)
  have e1 : (askErr xs ys s != 0) = false := by simp [he]
  have HE := Lib.hid he
  clear he
  rcases (show (0 ≤ most ∧ most ≤ 32) ∨ most < 0 ∨ (0 ≤ most ∧ 32 < most) by omega).symm with hm | hm
  · have HM : Hid (¬ (0 ≤ most ∧ most ≤ 32)) := Lib.hid (by omega)
    rcases hm with hm | hm
    all_goals
      go_enter Try.func19, Try.ntmps19
      go_wp2_with fail
      refine (hask).mono ?_
      rintro e w' ⟨rfl, rfl⟩
      go_wp2
      go_ret2
      exact RetR.nil (grid_arg HE.out HM.out) (Below.refl _ _)
  obtain ⟨hm1, hm2⟩ := hm
  obtain ⟨m, rfl⟩ := Int.eq_ofNat_of_zero_le hm1
  obtain ⟨i0, hi0, hz0, hz1, hz2⟩ := info_parts info_cell
  obtain ⟨wm, hmk, hmo, hmg⟩ := run_make_own (P := Try.prog) w w.heap.size 45 32 i0 _ 5 Try.underlying45 hi0 hz0 hz1 .i64 .i64 (4 * (2 * m + 1)) (by rw [hz2]; omega) (by unfold maxLen; omega) (Nat.le_refl _)
  rw [show ((4 * (2 * m + 1) : Nat) : Int) = 4 * (2 * (m : Int) + 1) by omega] at hmk
  go_enter Try.func19, Try.ntmps19
  go_wp2_with fail
  refine (hask).mono ?_
  rintro e w' ⟨rfl, rfl⟩
  clear hask
  go_wp2
  go_loopg [11, 12, 13, 39] (2 * m + 1) (fun gk v d _ _ wr => ∃ k : Nat, k + gk = 2 * m + 1 ∧ d = .int .i64 ((k : Int) - m) ∧ wr.ownsRow w.heap.size 32 5 v (4 * k) ((fullL (gridAt xs ys m s) (4 * k)).flatMap encC) ∧ Below w.heap.size w wr)
  case atStart => exact ⟨0, by omega, by go_num, by first | exact hmo | exact World.ownsRow_nil _ _ _ _, by first | exact Below.refl _ _ | exact (Below.refl _ _).grown hmg (Nat.le_refl _) (fun k hk => by cases hk)⟩
  case round =>
    obtain ⟨k, hk, rfl, hO, hb⟩ := hrel
    have hk' : k ≤ 2 * m + 1 := by omega
    have HK := Lib.hid hk
    clear hk hmk hmo hmg
    obtain ⟨wo, rfl⟩ : ∃ wo : World, wo = wr := ⟨_, rfl⟩
    obtain ⟨gu, rfl⟩ : ∃ gu : Nat, gu = gk := ⟨_, rfl⟩
    by_cases hlt : k < 2 * m + 1
    · have dk : decide ((k : Int) - (m : Int) ≤ m) = true := by simp; omega
      go_wp2
      go_loopg [11, 13, 39] 4 (fun gj v _ i wr => ∃ j : Nat, j + gj = 4 ∧ i = .int .i64 j ∧ wr.ownsRow w.heap.size 32 5 v (4 * k + j) ((fullL (gridAt xs ys m s) (4 * k + j)).flatMap encC) ∧ Below w.heap.size w wr)
      case atStart => exact ⟨0, by omega, rfl, hO, hb⟩
      case round =>
        obtain ⟨j, hj, rfl, hO, hb⟩ := hrel
        have hj' : j ≤ 4 := by omega
        have HJ := Lib.hid hj
        clear hj
        by_cases hlt2 : j < 4
        · go_wp2_with fail
          refine (cellOf_any _ _ _ _ _ _ _ _ _ _ (hx.keep hb) (hy.keep hb) HE.out (by omega) (by omega)).mono ?_
          rintro e w3 ⟨rfl, hb3⟩
          have hO3 := own_keep hO hb3
          have hB3 := bstep hb hb3
          have hs3 := hB3.size
          obtain ⟨C, hC⟩ : ∃ C, C = cellS xs ys ((k : Int) - m) (j : Int) s := ⟨_, rfl⟩
          rw [← hC]
          have HC := Lib.hid hC
          clear hC hb3
          go_wp2_with (at_builtin; refine wpList_append_own _ rfl _ _ 45 rfl w.heap.size 32 i0 _ 5 40 Try.underlying45 hi0 hz0 hz1 hz2 rfl (by decide) _ (4 * k + j) _ rfl (hO3.alloc _) ⟨w3.heap.size, 0, none⟩ 1 1 (encC C) rfl rfl (enc_news _ rfl) (encC_one _) (by unfold maxLen; omega) (by omega) (by simp; omega) ?_; intro v' w4 hown4 hgrow4 _)
          go_roundg (gk - 1)
          case rel => exact ⟨j + 1, by have := HJ.out; omega, by go_num, by rw [← Nat.add_assoc, fullL_succ, flat_snoc, gridAt_mk hlt2, ← HC.out]; exact hown4, own_below (balloc hB3 _) (hO3.alloc _) hgrow4 (Nat.le_refl _) (by simp; omega)⟩
          case measure => have := HJ.out; omega
        · obtain rfl : j = 4 := by omega
          go_wp2
          go_roundg (gu - 1)
          case rel => exact ⟨k + 1, by have := HK.out; omega, by go_num, by rw [show 4 * (k + 1) = 4 * k + 4 by omega]; exact hO, hb⟩
          case measure => have := HK.out; omega
    · obtain rfl : k = 2 * m + 1 := by omega
      go_wp2
      go_ret2
      exact RetR.own (grid_ok HE.out ⟨hm1, hm2⟩) (by rw [fullL_len]; rfl) hO hb
set_option maxHeartbeats 4000000 in
theorem refGrid_any (A B : Option Addr) (c e : Nat) (xs ys : List Int) (most s : Int) (w : World) (hx : RI .i64 w A xs) (hy : RI .i64 w B ys) (hl : xs.length ≤ 140737488355328) (hl2 : ys.length ≤ 140737488355328) :
    Calls Try.prog 20 #[.slice A xs.length c, .slice B ys.length e, .int .i64 most, .int .i64 s] w (RetR encC 5 32 w (gridSpec xs ys most s)) := by
  have hask := asked20_any A B c e xs ys s w hx hy hl hl2
  rcases (Decidable.em (askErr xs ys s = 0)).symm with he | he
  · have e1 : (askErr xs ys s != 0) = true := by simp [he]
    have HE := Lib.hid he
    clear he
    go_enter Try.func20, Try.ntmps20
    go_wp2_with (with_reducible refine hask.mono ?_; rintro e w' ⟨rfl, rfl⟩)
    go_ret2
    exact RetR.nil (grid_err HE.out) (Below.refl _ _)
  have e1 : (askErr xs ys s != 0) = false := by simp [he]
  have HE := Lib.hid he
  clear he
  rcases (show (0 ≤ most ∧ most ≤ 32) ∨ most < 0 ∨ (0 ≤ most ∧ 32 < most) by omega).symm with hm | hm
  · have HM : Hid (¬ (0 ≤ most ∧ most ≤ 32)) := Lib.hid (by omega)
    rcases hm with hm | hm
    all_goals
      go_enter Try.func20, Try.ntmps20
      go_wp2_with fail
      refine (hask).mono ?_
      rintro e w' ⟨rfl, rfl⟩
      go_wp2
      go_ret2
      exact RetR.nil (grid_arg HE.out HM.out) (Below.refl _ _)
  obtain ⟨hm1, hm2⟩ := hm
  obtain ⟨m, rfl⟩ := Int.eq_ofNat_of_zero_le hm1
  obtain ⟨i0, hi0, hz0, hz1, hz2⟩ := info_parts info_cell
  obtain ⟨wm, hmk, hmo, hmg⟩ := run_make_own (P := Try.prog) w w.heap.size 45 32 i0 _ 5 Try.underlying45 hi0 hz0 hz1 .i64 .i64 (4 * (2 * m + 1)) (by rw [hz2]; omega) (by unfold maxLen; omega) (Nat.le_refl _)
  rw [show ((4 * (2 * m + 1) : Nat) : Int) = 4 * (2 * (m : Int) + 1) by omega] at hmk
  go_enter Try.func20, Try.ntmps20
  go_wp2_with fail
  refine (hask).mono ?_
  rintro e w' ⟨rfl, rfl⟩
  clear hask
  go_wp2
  go_loopg [10, 11, 12] (2 * m + 1) (fun gk v d _ wr => ∃ k : Nat, k + gk = 2 * m + 1 ∧ d = .int .i64 ((k : Int) - m) ∧ wr.ownsRow w.heap.size 32 5 v (4 * k) ((fullL (gridAt xs ys m s) (4 * k)).flatMap encC) ∧ Below w.heap.size w wr)
  case atStart => exact ⟨0, by omega, by go_num, by first | exact hmo | exact World.ownsRow_nil _ _ _ _, by first | exact Below.refl _ _ | exact (Below.refl _ _).grown hmg (Nat.le_refl _) (fun k hk => by cases hk)⟩
  case round =>
    obtain ⟨k, hk, rfl, hO, hb⟩ := hrel
    have hk' : k ≤ 2 * m + 1 := by omega
    have HK := Lib.hid hk
    clear hk hmk hmo hmg
    obtain ⟨wo, rfl⟩ : ∃ wo : World, wo = wr := ⟨_, rfl⟩
    obtain ⟨gu, rfl⟩ : ∃ gu : Nat, gu = gk := ⟨_, rfl⟩
    by_cases hlt : k < 2 * m + 1
    · have dk : decide ((k : Int) - (m : Int) ≤ m) = true := by simp; omega
      go_wp2
      go_loopg [10, 12] 4 (fun gj v i wr => ∃ j : Nat, j + gj = 4 ∧ i = .int .i64 j ∧ wr.ownsRow w.heap.size 32 5 v (4 * k + j) ((fullL (gridAt xs ys m s) (4 * k + j)).flatMap encC) ∧ Below w.heap.size w wr)
      case atStart => exact ⟨0, by omega, rfl, hO, hb⟩
      case round =>
        obtain ⟨j, hj, rfl, hO, hb⟩ := hrel
        have hj' : j ≤ 4 := by omega
        have HJ := Lib.hid hj
        clear hj
        by_cases hlt2 : j < 4
        · go_wp2_with fail
          refine (found_any _ _ _ _ _ _ _ _ _ _ (hx.keep hb) (hy.keep hb) HE.out (by omega) (by omega)).mono ?_
          rintro e w3 ⟨rfl, hb3⟩
          have hO3 := own_keep hO hb3
          have hB3 := bstep hb hb3
          have hs3 := hB3.size
          obtain ⟨C, hC⟩ : ∃ C, C = cellS xs ys ((k : Int) - m) (j : Int) s := ⟨_, rfl⟩
          rw [← hC]
          have HC := Lib.hid hC
          clear hC hb3
          go_wp2_with (at_builtin; refine wpList_append_own _ rfl _ _ 45 rfl w.heap.size 32 i0 _ 5 40 Try.underlying45 hi0 hz0 hz1 hz2 rfl (by decide) _ (4 * k + j) _ rfl (hO3.alloc _) ⟨w3.heap.size, 0, none⟩ 1 1 (encC C) rfl rfl (enc_news _ rfl) (encC_one _) (by unfold maxLen; omega) (by omega) (by simp; omega) ?_; intro v' w4 hown4 hgrow4 _)
          go_roundg (gk - 1)
          case rel => exact ⟨j + 1, by have := HJ.out; omega, by go_num, by rw [← Nat.add_assoc, fullL_succ, flat_snoc, gridAt_mk hlt2, ← HC.out]; exact hown4, own_below (balloc hB3 _) (hO3.alloc _) hgrow4 (Nat.le_refl _) (by simp; omega)⟩
          case measure => have := HJ.out; omega
        · obtain rfl : j = 4 := by omega
          go_wp2
          go_roundg (gu - 1)
          case rel => exact ⟨k + 1, by have := HK.out; omega, by go_num, by rw [show 4 * (k + 1) = 4 * k + 4 by omega]; exact hO, hb⟩
          case measure => have := HK.out; omega
    · obtain rfl : k = 2 * m + 1 := by omega
      go_wp2
      go_ret2
      exact RetR.own (grid_ok HE.out ⟨hm1, hm2⟩) (by rw [fullL_len]; rfl) hO hb
end Go.Proofs.Ytnejmgnbamajdaa
