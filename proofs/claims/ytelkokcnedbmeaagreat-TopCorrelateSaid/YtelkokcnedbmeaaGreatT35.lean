/-
  Parts of the proof of TopCorrelate: TsC TsE TsF TpL.
-/
import Derived.Test.YtelkokcnedbmeaaGreatT34
import Derived.Test.YtelkokcnedbmeaaGreatT02
import Derived.Test.YtelkokcnedbmeaaGreatT21
import Derived.Test.YtelkokcnedbmeaaGreatT33
import Derived.Deep.RegionHeld3
namespace Go.Proofs.YtelkokcnedbmeaaGreat
open Go.RowKit
set_option maxRecDepth 20000
set_option linter.unusedSimpArgs false
set_option linter.unusedVariables false
namespace Srch
def zeroC : Cl := ⟨0, 0, 0, 0, 0⟩
def fitAt (d r : Int) : Prop := -32 ≤ d ∧ d ≤ 32 ∧ 0 ≤ r ∧ r ≤ 3
instance (d r : Int) : Decidable (fitAt d r) := by unfold fitAt; exact inferInstance
def atSpec (xs ys : List Int) (d r s : Int) : Cl × Int := if askErr xs ys s ≠ 0 then (zeroC, askErr xs ys s) else if fitAt d r then (cellS xs ys d r s, 0) else (zeroC, 2)
theorem atSpec_err {xs ys : List Int} {d r s : Int} (h : ¬ askErr xs ys s = 0) : atSpec xs ys d r s = (zeroC, askErr xs ys s) := by simp [atSpec, h]
theorem atSpec_ok {xs ys : List Int} {d r s : Int} (h : askErr xs ys s = 0) (h2 : fitAt d r) : atSpec xs ys d r s = (cellS xs ys d r s, 0) := by simp [atSpec, h, h2]
theorem atSpec_no {xs ys : List Int} {d r s : Int} (h : askErr xs ys s = 0) (h2 : ¬ fitAt d r) : atSpec xs ys d r s = (zeroC, 2) := by simp [atSpec, h, h2]
abbrev atV (r : Cl × Int) : Value := .tuple #[cellV r.1, .int .i64 r.2]
abbrev zeroCs : Array Value := #[.int .i64 0, .int .i64 0, .int .i64 0, .int .i64 0, .int .i64 0]
theorem searchAt_any (A B : Option Addr) (c e : Nat) (xs ys : List Int) (d r s : Int) (w : World) (hx : RI .i64 w A xs) (hy : RI .i64 w B ys) (hl : xs.length ≤ 140737488355328) (hl2 : ys.length ≤ 140737488355328) :
 Calls Tryz.prog 40 #[.slice A xs.length c, .slice B ys.length e, .int .i64 d, .int .i64 r, .int .i64 s] w fun e w' => e = .returned (atV (atSpec xs ys d r s)) ∧ Below w.heap.size w w' := by
 have hb0 : Below w.heap.size w (w.alloc (.cells zeroCs 52)) := balloc (Below.refl _ _) _
 rcases (Decidable.em (askErr xs ys s = 0)).symm with he | he
 ·have e1 : (askErr xs ys s != 0) = true := by simp [he]
  have HE := Lib.hid he
  clear he
  go_enter Tryz.func40, Tryz.ntmps40
  go_wp2_with fail
  refine (check20_any _ _ _ _ _ _ _ _ (hx.keep hb0) (hy.keep hb0) hl hl2).mono ?_
  rintro e w' ⟨rfl, rfl⟩
  go_wp2
  refine bodyPost_ret (v := atV (zeroC, askErr xs ys s)) (by simp [results, Tryz.results40, go_sem, zeroC]) rfl ⟨?_, hb0⟩
  rw [atSpec_err HE.out]
 have e1 : (askErr xs ys s != 0) = false := by simp [he]
 have HE := Lib.hid he
 clear he
 rcases (show fitAt d r ∨ (d < -32) ∨ (-32 ≤ d ∧ 32 < d) ∨ (-32 ≤ d ∧ d ≤ 32 ∧ ¬ (0 ≤ r ∧ r ≤ 3)) by unfold fitAt; omega) with hf | hf
 ·obtain ⟨a1, a2, a3, a4⟩ := hf
  have d1 : decide (0 ≤ r ∧ r ≤ 3) = true := by simp; omega
  go_enter Tryz.func40, Tryz.ntmps40
  go_wp2_with fail
  refine (check20_any _ _ _ _ _ _ _ _ (hx.keep hb0) (hy.keep hb0) hl hl2).mono ?_
  rintro e w' ⟨rfl, rfl⟩
  go_wp2_with fail
  refine (isRate_any _ _).mono ?_
  rintro e w' ⟨rfl, rfl⟩
  go_wp2_with fail
  refine (cellOf_any _ _ _ _ _ _ _ _ _ _ (hx.keep hb0) (hy.keep hb0) HE.out ⟨a1, a2⟩ ⟨a3, a4⟩).mono ?_
  rintro e w1 ⟨rfl, hb1⟩
  have hR := (Blk.new w 52 zeroCs).keep hb1
  have hB1 := bstep hb0 hb1
  have r0 := hR.frozen 0
  have r1 := hR.frozen 1
  have r2 := hR.frozen 2
  have r3 := hR.frozen 3
  have r4 := hR.frozen 4
  have q0 : w1.cell? ⟨w.heap.size, 0, none⟩ = some (.int .i64 0) := hR.cell 0
  have q1 : w1.cell? ⟨w.heap.size, 1, none⟩ = some (.int .i64 0) := hR.cell 1
  have q2 : w1.cell? ⟨w.heap.size, 2, none⟩ = some (.int .i64 0) := hR.cell 2
  have q3 : w1.cell? ⟨w.heap.size, 3, none⟩ = some (.int .i64 0) := hR.cell 3
  have q4 : w1.cell? ⟨w.heap.size, 4, none⟩ = some (.int .i64 0) := hR.cell 4
  have hg := hR.lt
  obtain ⟨C, hC⟩ : ∃ C, C = cellS xs ys d r s := ⟨_, rfl⟩
  rw [← hC]
  have HC := Lib.hid hC
  clear hC d1 hb1
  go_wp2
  refine bodyPost_ret (v := atV (C, 0)) (by simp [results, Tryz.results40, go_sem, q0, q1, q2, q3, q4]) rfl ⟨?_, ?_⟩
  ·rw [atSpec_ok HE.out ⟨a1, a2, a3, a4⟩, HC.out]
  ·exact ((((hB1.setCell (p := ⟨w.heap.size, 0, none⟩) (by simp) _).setCell (p := ⟨w.heap.size, 1, none⟩) (by simp) _).setCell (p := ⟨w.heap.size, 2, none⟩) (by simp) _).setCell (p := ⟨w.heap.size, 3, none⟩) (by simp) _).setCell (p := ⟨w.heap.size, 4, none⟩) (by simp) _
 have hn : ¬ fitAt d r := by unfold fitAt; omega
 rcases hf with hf | hf | hf
 ·go_enter Tryz.func40, Tryz.ntmps40
  go_wp2_with fail
  refine (check20_any _ _ _ _ _ _ _ _ (hx.keep hb0) (hy.keep hb0) hl hl2).mono ?_
  rintro e w' ⟨rfl, rfl⟩
  go_wp2
  refine bodyPost_ret (v := atV (zeroC, 2)) (by simp [results, Tryz.results40, go_sem, zeroC]) rfl ⟨?_, hb0⟩
  rw [atSpec_no HE.out hn]
 ·go_enter Tryz.func40, Tryz.ntmps40
  go_wp2_with fail
  refine (check20_any _ _ _ _ _ _ _ _ (hx.keep hb0) (hy.keep hb0) hl hl2).mono ?_
  rintro e w' ⟨rfl, rfl⟩
  go_wp2
  refine bodyPost_ret (v := atV (zeroC, 2)) (by simp [results, Tryz.results40, go_sem, zeroC]) rfl ⟨?_, hb0⟩
  rw [atSpec_no HE.out hn]
 ·have d1 : decide (0 ≤ r ∧ r ≤ 3) = false := by simp; omega
  go_enter Tryz.func40, Tryz.ntmps40
  go_wp2_with fail
  refine (check20_any _ _ _ _ _ _ _ _ (hx.keep hb0) (hy.keep hb0) hl hl2).mono ?_
  rintro e w' ⟨rfl, rfl⟩
  go_wp2_with fail
  refine (isRate_any _ _).mono ?_
  rintro e w' ⟨rfl, rfl⟩
  go_wp2
  refine bodyPost_ret (v := atV (zeroC, 2)) (by simp [results, Tryz.results40, go_sem, zeroC]) rfl ⟨?_, hb0⟩
  rw [atSpec_no HE.out hn]
theorem eqg_gauss : Tryz.prog.eqGuardType Tryz.prog.depth 50 = false := by kernel_rfl
theorem sih_gauss : Tryz.prog.stoodInHeld 50 = false := by kernel_rfl
theorem und_gauss : Tryz.prog.underlying 50 = some (.struct (Tryz.prog.fieldsOf 50)) := by kernel_rfl
theorem eq_gauss (x0 x1 y0 y1 : Int) (w : World) : (Op.equalIn 10000 50 (.agg #[.int .i64 x0, .int .i64 x1]) (.agg #[.int .i64 y0, .int .i64 y1])).run Tryz.prog w = .ok (x0 == y0 && x1 == y1) w := by
 have e3 := Tryz.underlying2
 rw [run_equalIn_agg _ _ _ _ _ und_gauss sih_gauss]
 by_cases h0 : x0 = y0 <;> by_cases h1 : x1 = y1 <;> simp [go_sem, Tryz.underlying50, h0, h1]
end Srch
end Go.Proofs.YtelkokcnedbmeaaGreat
namespace Go.Proofs.YtelkokcnedbmeaaGreat
open Go.RowKit
set_option maxRecDepth 20000
set_option linter.unusedSimpArgs false
set_option linter.unusedVariables false
namespace Srch
theorem info_cell : (Tryz.prog.info? 52).map (fun i => (i.zero, i.size, i.bytes)) = some (some (.agg #[.int .i64 0, .int .i64 0, .int .i64 0, .int .i64 0, .int .i64 0]), 5, 40) := by kernel_rfl
def encC (c : Cl) : List Value := [.int .i64 c.d, .int .i64 c.r, .int .i64 c.re, .int .i64 c.im, .int .i64 c.pw]
theorem encC_len (c : Cl) : (encC c).length = 5 := rfl
theorem encC_one (c : Cl) : ∀ u ∈ encC c, u.oneCell' = true := by simp [encC, Value.oneCell']
def gridAt (xs ys : List Int) (m : Int) (s : Int) (t : Nat) : Cl := cellS xs ys (((t / 4 : Nat) : Int) - m) ((t % 4 : Nat) : Int) s
def gridN (m : Int) : Nat := 4 * (2 * m.toNat + 1)
def gridSpec (xs ys : List Int) (m s : Int) : List Cl × Int := if askErr xs ys s ≠ 0 then ([], askErr xs ys s) else if 0 ≤ m ∧ m ≤ 32 then (fullL (gridAt xs ys m s) (gridN m), 0) else ([], 2)
theorem grid_err {xs ys : List Int} {m s : Int} (h : ¬ askErr xs ys s = 0) : gridSpec xs ys m s = ([], askErr xs ys s) := by simp [gridSpec, h]
theorem grid_arg {xs ys : List Int} {m s : Int} (h : askErr xs ys s = 0) (h2 : ¬ (0 ≤ m ∧ m ≤ 32)) : gridSpec xs ys m s = ([], 2) := by simp [gridSpec, h, h2]
theorem grid_ok {xs ys : List Int} {m s : Int} (h : askErr xs ys s = 0) (h2 : 0 ≤ m ∧ m ≤ 32) : gridSpec xs ys m s = (fullL (gridAt xs ys m s) (gridN m), 0) := by simp [gridSpec, h, h2]
theorem gridAt_mk {xs ys : List Int} {m : Int} {s : Int} {k j : Nat} (hj : j < 4) : gridAt xs ys m s (4 * k + j) = cellS xs ys ((k : Int) - m) (j : Int) s := by
 unfold gridAt
 have h1 : (4 * k + j) / 4 = k := by omega
 have h2 : (4 * k + j) % 4 = j := by omega
 rw [h1, h2]
set_option maxHeartbeats 4000000 in
theorem searchGrid_any (A B : Option Addr) (c e : Nat) (xs ys : List Int) (most s : Int) (w : World) (hx : RI .i64 w A xs) (hy : RI .i64 w B ys) (hl : xs.length ≤ 140737488355328) (hl2 : ys.length ≤ 140737488355328) :
 Calls Tryz.prog 44 #[.slice A xs.length c, .slice B ys.length e, .int .i64 most, .int .i64 s] w (RetR encC 5 52 w (gridSpec xs ys most s)) := by
 have hask := check20_any A B c e xs ys s w hx hy hl hl2
 rcases (Decidable.em (askErr xs ys s = 0)).symm with he | he
 ·have e1 : (askErr xs ys s != 0) = true := by simp [he]
  have HE := Lib.hid he
  clear he
  go_enter Tryz.func44, Tryz.ntmps44
  go_wp2_with (with_reducible refine hask.mono ?_; rintro e w' ⟨rfl, rfl⟩)
  go_ret2
  exact RetR.nil (grid_err HE.out) (Below.refl _ _)
 have e1 : (askErr xs ys s != 0) = false := by simp [he]
 have HE := Lib.hid he
 clear he
 rcases (show (0 ≤ most ∧ most ≤ 32) ∨ most < 0 ∨ (0 ≤ most ∧ 32 < most) by omega).symm with hm | hm
 ·have HM : Hid (¬ (0 ≤ most ∧ most ≤ 32)) := Lib.hid (by omega)
  rcases hm with hm | hm
  all_goals
   go_enter Tryz.func44, Tryz.ntmps44
   go_wp2_with fail
   refine (hask).mono ?_
   rintro e w' ⟨rfl, rfl⟩
   go_wp2
   go_ret2
   exact RetR.nil (grid_arg HE.out HM.out) (Below.refl _ _)
 obtain ⟨hm1, hm2⟩ := hm
 obtain ⟨m, rfl⟩ := Int.eq_ofNat_of_zero_le hm1
 obtain ⟨i0, hi0, hz0, hz1, hz2⟩ := info_parts info_cell
 obtain ⟨wm, hmk, hmo, hmg⟩ := run_make_own (P := Tryz.prog) w w.heap.size 94 52 i0 _ 5 Tryz.underlying94 hi0 hz0 hz1 .i64 .i64 (4 * (2 * m + 1)) (by rw [hz2]; omega) (by unfold maxLen; omega) (Nat.le_refl _)
 rw [show ((4 * (2 * m + 1) : Nat) : Int) = 4 * (2 * (m : Int) + 1) by omega] at hmk
 go_enter Tryz.func44, Tryz.ntmps44
 go_wp2_with fail
 refine (hask).mono ?_
 rintro e w' ⟨rfl, rfl⟩
 clear hask
 go_wp2
 go_loopg [11, 12, 13, 39] (2 * m + 1) (fun gk v d _ _ wr => ∃ k : Nat, k + gk = 2 * m + 1 ∧ d = .int .i64 ((k : Int) - m) ∧ wr.ownsRow w.heap.size 52 5 v (4 * k) ((fullL (gridAt xs ys m s) (4 * k)).flatMap encC) ∧ Below w.heap.size w wr)
 case atStart => exact ⟨0, by omega, by go_num, by first | exact hmo | exact World.ownsRow_nil _ _ _ _, by first | exact Below.refl _ _ | exact (Below.refl _ _).grown hmg (Nat.le_refl _) (fun k hk => by cases hk)⟩
 case round =>
  obtain ⟨k, hk, rfl, hO, hb⟩ := hrel
  have hk' : k ≤ 2 * m + 1 := by omega
  have HK := Lib.hid hk
  clear hk hmk hmo hmg
  obtain ⟨wo, rfl⟩ : ∃ wo : World, wo = wr := ⟨_, rfl⟩
  obtain ⟨gu, rfl⟩ : ∃ gu : Nat, gu = gk := ⟨_, rfl⟩
  by_cases hlt : k < 2 * m + 1
  ·have dk : decide ((k : Int) - (m : Int) ≤ m) = true := by simp; omega
   go_wp2
   go_loopg [11, 13, 39] 4 (fun gj v _ i wr => ∃ j : Nat, j + gj = 4 ∧ i = .int .i64 j ∧ wr.ownsRow w.heap.size 52 5 v (4 * k + j) ((fullL (gridAt xs ys m s) (4 * k + j)).flatMap encC) ∧ Below w.heap.size w wr)
   case atStart => exact ⟨0, by omega, rfl, hO, hb⟩
   case round =>
    obtain ⟨j, hj, rfl, hO, hb⟩ := hrel
    have hj' : j ≤ 4 := by omega
    have HJ := Lib.hid hj
    clear hj
    by_cases hlt2 : j < 4
    ·go_wp2_with fail
     refine (cellOf_any _ _ _ _ _ _ _ _ _ _ (hx.keep hb) (hy.keep hb) HE.out (by omega) (by omega)).mono ?_
     rintro e w3 ⟨rfl, hb3⟩
     have hO3 := own_keep hO hb3
     have hB3 := bstep hb hb3
     have hs3 := hB3.size
     obtain ⟨C, hC⟩ : ∃ C, C = cellS xs ys ((k : Int) - m) (j : Int) s := ⟨_, rfl⟩
     rw [← hC]
     have HC := Lib.hid hC
     clear hC hb3
     go_wp2_with (at_builtin; refine wpList_append_own _ rfl _ _ 94 rfl w.heap.size 52 i0 _ 5 40 Tryz.underlying94 hi0 hz0 hz1 hz2 rfl (by decide) _ (4 * k + j) _ rfl (hO3.alloc _) ⟨w3.heap.size, 0, none⟩ 1 1 (encC C) rfl rfl (enc_news _ rfl) (encC_one _) (by unfold maxLen; omega) (by omega) (by simp; omega) ?_; intro v' w4 hown4 hgrow4 _)
     go_roundg (gk - 1)
     case rel => exact ⟨j + 1, by have := HJ.out; omega, by go_num, by rw [← Nat.add_assoc, fullL_succ, flat_snoc, gridAt_mk hlt2, ← HC.out]; exact hown4, own_below (balloc hB3 _) (hO3.alloc _) hgrow4 (Nat.le_refl _) (by simp; omega)⟩
     case measure => have := HJ.out; omega
    ·obtain rfl : j = 4 := by omega
     go_wp2
     go_roundg (gu - 1)
     case rel => exact ⟨k + 1, by have := HK.out; omega, by go_num, by rw [show 4 * (k + 1) = 4 * k + 4 by omega]; exact hO, hb⟩
     case measure => have := HK.out; omega
  ·obtain rfl : k = 2 * m + 1 := by omega
   go_wp2
   go_ret2
   exact RetR.own (grid_ok HE.out ⟨hm1, hm2⟩) (by rw [fullL_len]; rfl) hO hb
end Srch
end Go.Proofs.YtelkokcnedbmeaaGreat
namespace Go.Proofs.YtelkokcnedbmeaaGreat
open Go.RowKit
set_option maxRecDepth 20000
set_option linter.unusedSimpArgs false
set_option linter.unusedVariables false
namespace Srch
def absI (d : Int) : Int := if 0 ≤ d then d else -d
theorem size_any (d : Int) (w : World) (h1 : -1000 ≤ d) (h2 : d ≤ 1000) : Calls Tryz.prog 80 #[.int .i64 d] w fun e w' => e = .returned (.int .i64 (absI d)) ∧ w = w' := by
 go_enter Tryz.func80, Tryz.ntmps80
 go_wp2
 all_goals go_ret
 all_goals exact ⟨ret_int (by unfold absI; split <;> omega), rfl⟩
def betterB (c d : Cl) : Bool := if c.pw ≠ d.pw then decide (d.pw < c.pw) else if absI c.d ≠ absI d.d then decide (absI c.d < absI d.d) else if c.d ≠ d.d then decide (c.d < d.d) else decide (c.r < d.r)
theorem isBetter_any (c d : Cl) (w : World) (h1 : -1000 ≤ c.d) (h2 : c.d ≤ 1000) (h3 : -1000 ≤ d.d) (h4 : d.d ≤ 1000) :
 Calls Tryz.prog 45 #[cellV c, cellV d] w fun e w' => e = .returned (.bool (betterB c d)) ∧ Below w.heap.size w w' := by
 obtain ⟨c0, c1, c2, c3, c4⟩ := c
 obtain ⟨d0, d1, d2, d3, d4⟩ := d
 simp only at h1 h2 h3 h4
 by_cases hp : c4 = d4
 ·have ep : (c4 != d4) = false := by simp [hp]
  have HP := Lib.hid hp
  clear hp
  by_cases ha : absI c0 = absI d0
  ·have ea : (absI c0 != absI d0) = false := by simp [ha]
   have HA := Lib.hid ha
   clear ha
   by_cases hd : c0 = d0
   ·have ed : (c0 != d0) = false := by simp [hd]
    have HD := Lib.hid hd
    clear hd
    go_enter Tryz.func45, Tryz.ntmps45
    go_wp2
    go_quiet ((go_at_call 80; exact quiet_left (size_any _ _ (by omega) (by omega))))
    go_wp2
    go_ret
    exact ⟨ret_bool (by simp [betterB, HP.out, HA.out, HD.out]), below_drewN (balloc (balloc (Below.refl _ _) _) _) _⟩
   ·have ed : (c0 != d0) = true := by simp [hd]
    go_enter Tryz.func45, Tryz.ntmps45
    go_wp2
    go_quiet ((go_at_call 80; exact quiet_left (size_any _ _ (by omega) (by omega))))
    go_wp2
    go_ret
    exact ⟨ret_bool (by simp [betterB, HP.out, HA.out, hd]), below_drewN (balloc (balloc (Below.refl _ _) _) _) _⟩
  ·have ea : (absI c0 != absI d0) = true := by simp [ha]
   go_enter Tryz.func45, Tryz.ntmps45
   go_wp2
   go_quiet ((go_at_call 80; exact quiet_left (size_any _ _ (by omega) (by omega))))
   go_wp2
   go_quiet ((go_at_call 80; exact quiet_add_left (size_any _ _ (by omega) (by omega))))
   go_wp2
   go_ret
   exact ⟨ret_bool (by simp [betterB, HP.out, ha]), below_drewN (below_drewN (balloc (balloc (Below.refl _ _) _) _) _) _⟩
 ·have ep : (c4 != d4) = true := by simp [hp]
  go_enter Tryz.func45, Tryz.ntmps45
  go_wp2
  go_ret
  exact ⟨ret_bool (by simp [betterB, hp]), balloc (balloc (Below.refl _ _) _) _⟩
theorem eqg_cell : Tryz.prog.eqGuardType Tryz.prog.depth 52 = false := by kernel_rfl
theorem sih_cell : Tryz.prog.stoodInHeld 52 = false := by kernel_rfl
theorem und_cell : Tryz.prog.underlying 52 = some (.struct (Tryz.prog.fieldsOf 52)) := by kernel_rfl
theorem eq_cell (x0 x1 x2 x3 x4 y0 y1 y2 y3 y4 : Int) (w : World) : (Op.equalIn 10000 52 (.agg #[.int .i64 x0, .int .i64 x1, .int .i64 x2, .int .i64 x3, .int .i64 x4]) (.agg #[.int .i64 y0, .int .i64 y1, .int .i64 y2, .int .i64 y3, .int .i64 y4])).run Tryz.prog w = .ok (x0 == y0 && (x1 == y1 && ((x2 == y2 && x3 == y3) && x4 == y4))) w := by
 have e3 := Tryz.underlying2
 have e4 := Tryz.underlying3
 have g := eq_gauss x2 x3 y2 y3
 rw [run_equalIn_agg _ _ _ _ _ und_cell sih_cell]
 by_cases h0 : x0 = y0
 ·by_cases h1 : x1 = y1
  ·by_cases h2 : x2 = y2
   ·by_cases h3 : x3 = y3
    ·by_cases h4 : x4 = y4 <;> simp [go_sem, Tryz.underlying52, h0, h1, h2, h3, h4, g]
    ·simp [go_sem, Tryz.underlying52, h0, h1, h2, h3, g]
   ·simp [go_sem, Tryz.underlying52, h0, h1, h2, g]
  ·simp [go_sem, Tryz.underlying52, h0, h1]
 ·simp [go_sem, Tryz.underlying52, h0]
theorem eq_cellD (c d : Cl) (w : World) : (Op.equalIn 10000 52 (cellV c) (cellV d)).run Tryz.prog w = .ok (decide (c = d)) w := by
 have h : decide (c = d) = (c.d == d.d && (c.r == d.r && ((c.re == d.re && c.im == d.im) && c.pw == d.pw))) := by
  obtain ⟨c0, c1, c2, c3, c4⟩ := c
  obtain ⟨d0, d1, d2, d3, d4⟩ := d
  rw [Bool.eq_iff_iff]
  simp
  intro _ _
  rw [and_assoc]
 rw [h]
 exact eq_cell _ _ _ _ _ _ _ _ _ _ w
theorem encC_at {w : World} {b off k : Nat} {C : Cl} (h : ∀ i, i < 5 → w.cell? ⟨b, off + k * 5 + i, none⟩ = (encC C)[i]?) :
 w.cell? ⟨b, off + k * 5, none⟩ = some (.int .i64 C.d) ∧ w.cell? ⟨b, off + k * 5 + 1, none⟩ = some (.int .i64 C.r) ∧ w.cell? ⟨b, off + k * 5 + 2, none⟩ = some (.int .i64 C.re) ∧ w.cell? ⟨b, off + k * 5 + 3, none⟩ = some (.int .i64 C.im) ∧ w.cell? ⟨b, off + k * 5 + 4, none⟩ = some (.int .i64 C.pw) :=
 ⟨h 0 (by omega), h 1 (by omega), h 2 (by omega), h 3 (by omega), h 4 (by omega)⟩
end Srch
end Go.Proofs.YtelkokcnedbmeaaGreat
namespace Go.Proofs.YtelkokcnedbmeaaGreat
open Go.RowKit Runs Lagc
set_option maxRecDepth 20000
set_option linter.unusedVariables false
set_option linter.unusedSimpArgs false
namespace Tpm
open Lagw
theorem cross_l {A B : Option Addr} {c d n1 n2 T M : Nat} {xs ys : List Int} (ex : streamErr xs = 0) (ey : streamErr ys = 0) (hM : M ≤ 255) (hT : T = 2 * M + 1) (h1 : xs.length = n1) (h2 : ys.length = n2) (hc : n1 ≤ c) (hd : n2 ≤ d) (w : World) (hx : RI .i64 w A xs) (hy : RI .i64 w B ys) :
 Calls Tryz.prog 8 #[.slice A n1 c, .slice B n2 d, .int .i64 (M : Int)] w fun e w' => ∃ A' c', e = .returned (.tuple #[.slice A' T c', .int .i64 0]) ∧ RL w' A' (lagCells xs ys M) ∧ Below w.heap.size w w' := by
 subst h1; subst h2; subst hT
 have l1 := (streamErr_zero ex).1
 have l2 := (streamErr_zero ey).1
 refine (Crs.crossOf_any A B c d xs ys M w hx hy hc hd (by omega) (by omega)).mono ?_
 rintro e w' h
 obtain ⟨A', c', rfl, h2, h3⟩ := h
 rw [ofSpec_ok ex ey hM] at h2 ⊢
 exact ⟨A', c', by rw [lagCells_len], h2, h3⟩
set_option maxRecDepth 20000 in
set_option maxHeartbeats 8000000 in
theorem packed_any (X Y A : Option Addr) (cx cy ca : Nat) (xs ys : List Int) (M T : Nat) (w : World) (hx : RI .i64 w X xs) (hy : RI .i64 w Y ys) (hA : RL w A (lagCells xs ys M)) (ex : streamErr xs = 0) (ey : streamErr ys = 0) (hM : M ≤ 255) (hT : T = 2 * M + 1) :
 Calls Tryz.prog 15 #[.slice X xs.length cx, .slice Y ys.length cy, .slice A T ca] w fun e w' => e = .returned (.bool true) ∧ Below w.heap.size w w' := by
 have l1 := (streamErr_zero ex).1
 have l2 := (streamErr_zero ey).1
 have EX := Lib.hid ex
 have EY := Lib.hid ey
 have LW := Lib.hid ((lagCells_len xs ys M).trans hT.symm)
 have hT1 : T ≤ 511 := by omega
 have hq : T / 2 = M := by omega
 have hq2 : (T : Int) / 2 = (M : Int) := by omega
 have HT := Lib.hid hT
 have hB := Below.refl w.heap.size w
 clear ex ey hT
 go_enter Tryz.func15, Tryz.ntmps15
 go_wp2_with fail
 refine (Smp.pack_any X cx xs _ hx EX.out).mono ?_
 rintro _ w1 ⟨g1, rfl, r1, hb1⟩
 replace hB := bstep hB hb1
 replace hy := hy.keep hb1
 replace hA := hA.keep hb1
 clear hb1
 go_wp2_with fail
 refine (Smp.pack_any Y cy ys _ hy EY.out).mono ?_
 rintro _ w2 ⟨g2, rfl, r2, hb2⟩
 replace hB := bstep hB hb2
 replace hA := hA.keep hb2
 replace r1 := r1.keep hb2
 clear hb2
 go_wp2_with fail
 refine (Smp.unpack_any _ _ xs _ r1 EX.out).mono ?_
 rintro _ w3 ⟨g3, rfl, r3, hb3⟩
 replace hB := bstep hB hb3
 replace hA := hA.keep hb3
 replace r2 := r2.keep hb3
 clear hb3
 clear r1
 go_wp2_with fail
 refine (Smp.unpack_any _ _ ys _ r2 EY.out).mono ?_
 rintro _ w4 ⟨g4, rfl, r4, hb4⟩
 replace hB := bstep hB hb4
 replace hA := hA.keep hb4
 replace r3 := r3.keep hb4
 clear hb4
 clear r2
 go_wp2_with fail
 refine (cross_l (M := M) EX.out EY.out hM HT.out rfl rfl (Nat.le_refl _) (Nat.le_refl _) _ r3 r4).mono ?_
 rintro _ w5 ⟨A5, c5, rfl, r5, hb5⟩
 replace hB := bstep hB hb5
 replace hA := hA.keep hb5
 clear hb5
 go_wp2_with fail
 refine (same16_l _ LW.out r5 hA hT1).mono ?_
 rintro _ w6 ⟨rfl, hb6⟩
 replace hB := bstep hB hb6
 go_wp2
 go_ret
 exact ⟨rfl, hB⟩
theorem cell_sum (xs ys : List Int) (d : Int) (n : Nat) (hn : n ≤ xs.length) : Srch.cellSum xs ys d 0 7 n = (sumR (fun i => sumR (fun k => if (k : Int) - i = d then prodF xs ys i k else 0) ys.length) n, 0) := by
 induction n with
 | zero => rfl
 | succ n ih =>
  have e : Srch.partAt xs ys d 0 7 n = (sumR (fun k => if (k : Int) - n = d then prodF xs ys n k else 0) ys.length, 0) := by
   unfold Srch.partAt Srch.quartAt
   rw [show -(0 : Int) * ((n : Int) / 7) = 0 by simp, Srch.turnG_0 (by rfl), inner_one]
   unfold Srch.prodAt
   by_cases h : 0 ≤ (n : Int) + d ∧ (n : Int) + d < ys.length
   ·rw [if_pos h]
    unfold Srch.extS prodF
    rw [if_pos h.1]
   ·rw [if_neg h, Srch.extS_out (by omega), Int.mul_zero]
  rw [Srch.cellSum, ih (by omega), e, sumR_succ]
  simp
theorem cell_lag {xs ys : List Int} {M k : Nat} (hk : k < 2 * M + 1) : Srch.cellS xs ys ((k : Int) - M) 0 7 = ⟨(k : Int) - M, 0, ((lagCells xs ys M).getD k (0, 0)).1, 0, ((lagCells xs ys M).getD k (0, 0)).1 * ((lagCells xs ys M).getD k (0, 0)).1⟩ := by
 unfold Srch.cellS
 rw [cell_sum _ _ _ _ (Nat.le_refl _), lagCells_at hk]
 simp [pairSum]
theorem at_l {A B : Option Addr} {c e n1 n2 : Nat} {xs ys : List Int} {M k : Nat} {s o : Int} (ex : streamErr xs = 0) (ey : streamErr ys = 0) (hM : M ≤ 32) (hk : k < 2 * M + 1) (hC : (lagCells xs ys M).getD k (0, 0) = (s, o)) (h1 : xs.length = n1) (h2 : ys.length = n2) (w : World) (hx : RI .i64 w A xs) (hy : RI .i64 w B ys) :
 Calls Tryz.prog 40 #[.slice A n1 c, .slice B n2 e, .int .i64 ((k : Int) - M), .int .i64 0, .int .i64 7] w fun e w' => e = .returned (.tuple #[.agg #[.int .i64 ((k : Int) - M), .int .i64 0, .int .i64 s, .int .i64 0, .int .i64 (s * s)], .int .i64 0]) ∧ Below w.heap.size w w' := by
 subst h1; subst h2
 have l1 := (streamErr_zero ex).1
 have l2 := (streamErr_zero ey).1
 have he : Srch.askErr xs ys 7 = 0 := by unfold Srch.askErr; rw [if_neg (by rw [ex]; simp), if_neg (by rw [ey]; simp), if_neg (by omega)]
 have h := Srch.searchAt_any A B c e xs ys ((k : Int) - M) 0 7 w hx hy (by omega) (by omega)
 rw [Srch.atSpec_ok he (by unfold Srch.fitAt; omega), cell_lag hk, hC] at h
 exact h
theorem found_l {A B : Option Addr} {c e n1 n2 : Nat} {xs ys : List Int} {M k : Nat} {s o : Int} (ex : streamErr xs = 0) (ey : streamErr ys = 0) (hM : M ≤ 32) (hk : k < 2 * M + 1) (hC : (lagCells xs ys M).getD k (0, 0) = (s, o)) (h1 : xs.length = n1) (h2 : ys.length = n2) (w : World) (hx : RI .i64 w A xs) (hy : RI .i64 w B ys) :
 Calls Tryz.prog 41 #[.slice A n1 c, .slice B n2 e, .int .i64 ((k : Int) - M), .int .i64 0, .int .i64 7] w fun e w' => e = .returned (.agg #[.int .i64 ((k : Int) - M), .int .i64 0, .int .i64 s, .int .i64 0, .int .i64 (s * s)]) ∧ Below w.heap.size w w' := by
 subst h1; subst h2
 have he : Srch.askErr xs ys 7 = 0 := by unfold Srch.askErr; rw [if_neg (by rw [ex]; simp), if_neg (by rw [ey]; simp), if_neg (by omega)]
 have h := Srch.found_any A B c e xs ys ((k : Int) - M) 0 7 w hx hy he ⟨by omega, by omega⟩ ⟨by omega, by omega⟩
 rw [cell_lag hk, hC] at h
 exact h
theorem sq9 {s : Int} (h1 : -2304 ≤ s) (h2 : s ≤ 2304) : 0 ≤ s * s ∧ s * s ≤ 5308416 := by
 rcases Int.le_total 0 s with h | h
 ·exact ⟨Int.mul_nonneg h h, Int.mul_le_mul h2 h2 h (by omega)⟩
 ·have h3 := Int.mul_le_mul (a := -s) (b := -s) (c := 2304) (d := 2304) (by omega) (by omega) (by omega) (by omega)
  have h4 := Int.mul_nonneg (a := -s) (b := -s) (by omega) (by omega)
  rw [Int.neg_mul_neg] at h3 h4
  exact ⟨h4, h3⟩
theorem lag_bd {xs ys : List Int} (ex : streamErr xs = 0) (ey : streamErr ys = 0) {M k : Nat} {s o : Int} (hk : k < 2 * M + 1) (hC : (lagCells xs ys M).getD k (0, 0) = (s, o)) : -2304 ≤ s ∧ s ≤ 2304 := by
 have := cells_at_bd ex ey hk
 rw [hC] at this
 exact this.1
set_option maxRecDepth 20000 in
set_option maxHeartbeats 8000000 in
theorem looked_any (X Y A : Option Addr) (cx cy ca : Nat) (xs ys : List Int) (M T : Nat) (w : World) (hx : RI .i64 w X xs) (hy : RI .i64 w Y ys) (hA : RL w A (lagCells xs ys M)) (ex : streamErr xs = 0) (ey : streamErr ys = 0) (hM : M ≤ 32) (hT : T = 2 * M + 1) :
 Calls Tryz.prog 16 #[.slice X xs.length cx, .slice Y ys.length cy, .slice A T ca] w fun e w' => e = .returned (.bool true) ∧ Below w.heap.size w w' := by
 have EX := Lib.hid ex
 have EY := Lib.hid ey
 have LW := Lib.hid ((lagCells_len xs ys M).trans hT.symm)
 have hT1 : T ≤ 511 := by omega
 have hq : T / 2 = M := by omega
 have hq2 : (T : Int) / 2 = (M : Int) := by omega
 have HT := Lib.hid hT
 clear ex ey hT
 go_enter Tryz.func16, Tryz.ntmps16
 go_wp2
 go_loopg [8, 9, 10, 11] T (fun gk i _ _ _ wr => ∃ k : Nat, k + gk = T ∧ i = .int .i64 ((k : Int) - M) ∧ Below w.heap.size w wr)
 case atStart => exact ⟨0, by omega, by simp, Below.refl _ _⟩
 case round =>
  obtain ⟨k, hk, rfl, hb1⟩ := hrel
  have HK := Lib.hid hk
  have hk' : k ≤ T := by omega
  clear hk
  obtain ⟨wo, rfl⟩ : ∃ wo, wo = wr := ⟨_, rfl⟩
  by_cases hlt : k < T
  ·have hle : (k : Int) - M ≤ M := by have := HT.out; omega
   have hkT : k < 2 * M + 1 := by rw [← HT.out]; exact hlt
   have HKT := Lib.hid hkT
   obtain ⟨b, off, rfl, hlw, hw1, hw2⟩ := hA.at_ (i := k) (by rw [LW.out]; exact hlt)
   obtain ⟨s, o, hC⟩ : ∃ s o, (lagCells xs ys M).getD k (0, 0) = (s, o) := ⟨_, _, rfl⟩
   rw [hC] at hw1 hw2
   have HC := Lib.hid hC
   obtain ⟨hs1, hs2⟩ := lag_bd EX.out EY.out hkT hC
   clear hC hkT
   go_wp2_with fail
   refine (at_l EX.out EY.out hM HKT.out HC.out rfl rfl _ (hx.keep hb1) (hy.keep hb1)).mono ?_
   rintro _ w2 ⟨rfl, hb2⟩
   have hB2 := bstep hb1 hb2
   have c1 := (hB2.cell (p := ⟨b, _, none⟩) hlw).trans hw1
   have hlw2 := Nat.lt_of_lt_of_le hlw hB2.size
   have hss := sq9 hs1 hs2
   clear hw1 hw2 hle
   go_wp2_with fail
   obtain ⟨U, hU⟩ : ∃ U, U = (w2.alloc (.cells #[.int .i64 ((k : Int) - M), .int .i64 0, .int .i64 s, .int .i64 0, .int .i64 (s * s)] 52)).alloc (.cells #[.int .i64 s, .int .i64 0] 50) := ⟨_, rfl⟩
   have vC : Blk U w2.heap.size 52 #[.int .i64 ((k : Int) - M), .int .i64 0, .int .i64 s, .int .i64 0, .int .i64 (s * s)] := by rw [hU]; exact (Blk.new _ _ _).alloc _
   have vV : Blk U (w2.heap.size + 1) 50 #[.int .i64 s, .int .i64 0] := by rw [hU]; exact Blk.newAt _ _ (by simp)
   have hbU : Below w2.heap.size w2 U := by rw [hU]; exact balloc (balloc (Below.refl _ _) _) _
   rw [← hU]
   clear hU
   have hBU := bstep hB2 hbU
   clear hbU
   obtain ⟨gv, hgv⟩ : ∃ gv, gv = w2.heap.size + 1 := ⟨_, rfl⟩
   rw [← hgv] at vV ⊢
   obtain ⟨gc, hgc⟩ : ∃ gc, gc = w2.heap.size := ⟨_, rfl⟩
   rw [← hgc] at vC ⊢
   clear hgv hgc
   have e1 := Srch.eqg_gauss
   have e2 := fun w => Srch.eq_gauss s 0 s 0 w
   have e3 := Srch.eqg_cell
   have e4 := fun w => Srch.eq_cellD ⟨(k : Int) - M, 0, s, 0, s * s⟩ ⟨(k : Int) - M, 0, s, 0, s * s⟩ w
   rw [decide_eq_true rfl] at e4
   simp only [beq_self_eq_true, Bool.and_true] at e2
   have hw : IntKind.i64.wrap (s * s) = s * s := IntWalk.i64_in _ ⟨by omega, by omega⟩
   have HH : Hid (∀ W, Below U.heap.size U W → (W.cell? ⟨gc, 0, none⟩ = some (.int .i64 ((k : Int) - M)) ∧ W.cell? ⟨gc, 1, none⟩ = some (.int .i64 0) ∧ W.cell? ⟨gc, 2, none⟩ = some (.int .i64 s) ∧ W.cell? ⟨gc, 3, none⟩ = some (.int .i64 0) ∧ W.cell? ⟨gc, 4, none⟩ = some (.int .i64 (s * s))) ∧ (W.cell? ⟨gv, 0, none⟩ = some (.int .i64 s) ∧ W.cell? ⟨gv, 1, none⟩ = some (.int .i64 0))) := Lib.hid (fun W hW => ⟨⟨(vC.keep hW).cell 0, (vC.keep hW).cell 1, (vC.keep hW).cell 2, (vC.keep hW).cell 3, (vC.keep hW).cell 4⟩, (vV.keep hW).cell 0, (vV.keep hW).cell 1⟩)
   go_cut [62] (fun v wc => v = .bool false ∧ Below U.heap.size U wc)
   case first =>
    go_region_held3 (fun W => (W.cell? ⟨gc, 0, none⟩ = some (.int .i64 ((k : Int) - M)) ∧ W.cell? ⟨gc, 1, none⟩ = some (.int .i64 0) ∧ W.cell? ⟨gc, 2, none⟩ = some (.int .i64 s) ∧ W.cell? ⟨gc, 3, none⟩ = some (.int .i64 0) ∧ W.cell? ⟨gc, 4, none⟩ = some (.int .i64 (s * s))) ∧ (W.cell? ⟨gv, 0, none⟩ = some (.int .i64 s) ∧ W.cell? ⟨gv, 1, none⟩ = some (.int .i64 0)))
     (first | exact HH.out _ (Below.refl _ _) | exact HH.out _ (Below.drew (Below.refl _ _)) | exact HH.out _ hb9)
     ((first
       |(go_at_call 41; (with_reducible refine (found_l EX.out EY.out hM HKT.out HC.out rfl rfl U.drew ((hx.keep hBU).keep (Below.drew (Below.refl _ _))) ((hy.keep hBU).keep (Below.drew (Below.refl _ _)))).mono ?_); rintro e w9 ⟨rfl, hb9'⟩; have hb9 : Below U.heap.size U w9 := bstep (Below.drew (Below.refl _ _)) hb9')
       | fail))
    all_goals
     go_wp2_with fail
     go_meet
     first
      | exact ⟨rfl, hb9⟩
      | exact ⟨rfl, Below.drew hb9⟩
   case rest =>
   obtain ⟨rfl, hb9⟩ := hcut
   go_wp2
   go_roundg (gk - 1)
   case rel => exact ⟨k + 1, by have := HK.out; omega, by go_num, bstep hBU hb9⟩
   case measure => have := HK.out; omega
  ·have hle : ¬ ((k : Int) - M ≤ M) := by have := HT.out; omega
   have hle2 : (M : Int) < (k : Int) - M := by omega
   go_wp2
   go_ret
   exact ⟨rfl, hb1⟩
end Tpm
end Go.Proofs.YtelkokcnedbmeaaGreat
