/-
  Layer 12 (bank), contracts: Keep, Add, Shift, Power of the program.
-/
import Derived.Test.YtnhjeelcgfobnaaBkE
namespace Go.Proofs.Ytnhjeelcgfobnaa
open Go.RowKit Num
set_option maxRecDepth 8000
set_option linter.unusedVariables false
set_option linter.unusedSimpArgs false
namespace Bk
open Lol

set_option maxHeartbeats 2000000 in
theorem keep_any (p : Int) (A : Option Addr) (c : Nat) (b : List (List Int)) (K : Option Addr) (ck : Nat) (kp : List Bool) (w : World) (hp1 : -9223372036854775808 ≤ p) (hp2 : p ≤ 9223372036854775807) (hx : RLL .i64 w A b) (hy : RBo w K kp) :
    Calls Try.prog 24 #[.int .i64 p, .slice A b.length c, .slice K kp.length ck] w (RetG w (keepS p b kp)) := by
  obtain ⟨wE, hwE⟩ : ∃ wE, wE = (w.alloc (.cells #[.slice A b.length c] 22)).alloc (.cells #[.slice K kp.length ck] 40) := ⟨_, rfl⟩
  have hk1 : Blk wE w.heap.size 22 #[.slice A b.length c] := by rw [hwE]; exact (Blk.new _ _ _).alloc _
  have hk2 : Blk wE (w.heap.size + 1) 40 #[.slice K kp.length ck] := by rw [hwE]; exact Blk.newAt _ _ (by simp)
  have hbE : Below w.heap.size w wE := by rw [hwE]; exact balloc (balloc (Below.refl _ _) _) _
  have hsE : wE.heap.size = w.heap.size + 1 + 1 := by rw [hwE]; simp
  have hxE := hx.keep hbE
  have hyE := hy.keep hbE
  have hbF : Below wE.heap.size wE (wE.alloc (.cells #[.slice A b.length c] 22)) := balloc (Below.refl _ _) _
  have HC := Lib.hid (fun g w hk hx => banks1_any p A c b g 22 w hp1 hp2 hk hx)
  by_cases h0 : bothE12 p b = 0
  · obtain ⟨P, rfl, h7, hP2, hP, hBk⟩ := both_zero h0
    have hN256 := hBk.len
    have hw16 := hBk.wid16
    have c0 : (bothE12 (P : Int) b != 0) = false := by rw [h0]; rfl
    by_cases hN : b.length = 0
    · have d1 : decide (0 < (b.length : Int)) = false := decide_eq_false (by omega)
      have d1' : decide (0 < b.length) = false := decide_eq_false (by omega)
      have HS : Hid (keepS P b kp = (grd (keepF b kp) (wid b) b.length, 0)) := Lib.hid (by unfold keepS; rw [if_neg (by simp [h0]), if_neg (by omega)])
      have HKL : Hid (∀ t k (ht : t < b.length), k < wid b → k < b[t].length ∧ k < kp.length) := Lib.hid (fun t k ht => by omega)
      clear h0 hN hBk
      go_enter Try.func24, Try.ntmps24
      go_wp2_with fail
      rw [← hwE]
      clear hwE
      refine (HC.out _ _ (Blk.newAt _ _ hsE) (hxE.keep hbF)).mono ?_
      rintro _ w1 ⟨rfl, hb1⟩
      have hb01 := bstep hbF hb1
      have hB1 := bstep hbE hb01
      replace hk1 := hk1.keep hb01
      replace hk2 := hk2.keep hb01
      replace hxE := hxE.keep hb01
      replace hyE := hyE.keep hb01
      have q0 : World.cell? w1 ⟨w.heap.size, 0, none⟩ = some (.slice A b.length c) := hk1.cell 0
      have f0 := hk1.frozen 0
      have fl := hk1.lt
      have r0 : World.cell? w1 ⟨(w.heap.size + 1), 0, none⟩ = some (.slice K kp.length ck) := hk2.cell 0
      have s0 := hk2.frozen 0
      have sl := hk2.lt
      go_wp2
      go_quiet (fail)
      go_wp2_with fail
      refine (eachKeep_any (w.heap.size + 1) w.heap.size (keepF b kp) A c b _ hN256 hw16 (show RLL .i64 (World.drewN w1 _) A b from hxE) (fun W t k hW ht hk => ?_)).mono ?_
      · have hkA := (show Blk (World.drewN w1 _) _ _ _ from hk2).keep hW
        have hkB := (show Blk (World.drewN w1 _) _ _ _ from hk1).keep hW
        exact keep1_any (w.heap.size + 1) w.heap.size K ck kp A c b W t k ht (HKL.out t k ht hk).1 (HKL.out t k ht hk).2 (hkA.cell 0) hkA.lt (hkB.cell 0) hkB.lt ((show RLL .i64 (World.drewN w1 _) A b from hxE).keep hW) ((show RBo (World.drewN w1 _) K kp from hyE).keep hW)
      · rintro _ w2 ⟨g, raws, rfl, hg, hkO, hG, hb2⟩
        have hb12 : Below w1.heap.size w1 w2 := bstep (below_drewN (Below.refl _ _) _) hb2
        go_wp2
        go_ret2
        exact RetG.grid HS.out (grd_len _ _ _) (Nat.le_trans hB1.size hg) hkO hG (bstep hB1 hb12)
    · have d1 : decide (0 < (b.length : Int)) = true := decide_eq_true (by omega)
      have d1' : decide (0 < b.length) = true := decide_eq_true (by omega)
      have HW := Lib.hid (fun w (h : RLL .i64 w A b) => width_any A c b w h)
      by_cases hK : kp.length = wid b
      · have d2 : ((kp.length : Int) != (wid b : Int)) = false := by simp [hK]
        have HS : Hid (keepS P b kp = (grd (keepF b kp) (wid b) b.length, 0)) := Lib.hid (by unfold keepS; rw [if_neg (by simp [h0]), if_neg (by omega)])
        have HKL : Hid (∀ t k (ht : t < b.length), k < wid b → k < b[t].length ∧ k < kp.length) := Lib.hid (fun t k ht hk => by
          rw [(hBk.row t ht).1]
          omega)
        clear h0 hN hK hBk
        go_enter Try.func24, Try.ntmps24
        go_wp2_with fail
        rw [← hwE]
        clear hwE
        refine (HC.out _ _ (Blk.newAt _ _ hsE) (hxE.keep hbF)).mono ?_
        rintro _ w1 ⟨rfl, hb1⟩
        have hb01 := bstep hbF hb1
        have hB1 := bstep hbE hb01
        replace hk1 := hk1.keep hb01
        replace hk2 := hk2.keep hb01
        replace hxE := hxE.keep hb01
        replace hyE := hyE.keep hb01
        have q0 : World.cell? w1 ⟨w.heap.size, 0, none⟩ = some (.slice A b.length c) := hk1.cell 0
        have f0 := hk1.frozen 0
        have fl := hk1.lt
        have r0 : World.cell? w1 ⟨(w.heap.size + 1), 0, none⟩ = some (.slice K kp.length ck) := hk2.cell 0
        have s0 := hk2.frozen 0
        have sl := hk2.lt
        go_wp2
        go_quiet ((go_at_call 40; exact quiet_left (HW.out _ hxE)))
        go_wp2_with fail
        refine (eachKeep_any (w.heap.size + 1) w.heap.size (keepF b kp) A c b _ hN256 hw16 (show RLL .i64 (World.drewN w1 _) A b from hxE) (fun W t k hW ht hk => ?_)).mono ?_
        · have hkA := (show Blk (World.drewN w1 _) _ _ _ from hk2).keep hW
          have hkB := (show Blk (World.drewN w1 _) _ _ _ from hk1).keep hW
          exact keep1_any (w.heap.size + 1) w.heap.size K ck kp A c b W t k ht (HKL.out t k ht hk).1 (HKL.out t k ht hk).2 (hkA.cell 0) hkA.lt (hkB.cell 0) hkB.lt ((show RLL .i64 (World.drewN w1 _) A b from hxE).keep hW) ((show RBo (World.drewN w1 _) K kp from hyE).keep hW)
        · rintro _ w2 ⟨g, raws, rfl, hg, hkO, hG, hb2⟩
          have hb12 : Below w1.heap.size w1 w2 := bstep (below_drewN (Below.refl _ _) _) hb2
          go_wp2
          go_ret2
          exact RetG.grid HS.out (grd_len _ _ _) (Nat.le_trans hB1.size hg) hkO hG (bstep hB1 hb12)
      · have d2 : ((kp.length : Int) != (wid b : Int)) = true := by rw [bne_iff_ne]; omega
        have HS : Hid (keepS P b kp = ([], 2)) := Lib.hid (by unfold keepS; rw [if_neg (by simp [h0]), if_pos (by omega)])
        clear h0 hN hK hBk
        go_enter Try.func24, Try.ntmps24
        go_wp2_with fail
        rw [← hwE]
        clear hwE
        refine (HC.out _ _ (Blk.newAt _ _ hsE) (hxE.keep hbF)).mono ?_
        rintro _ w1 ⟨rfl, hb1⟩
        have hb01 := bstep hbF hb1
        have hB1 := bstep hbE hb01
        replace hk1 := hk1.keep hb01
        replace hk2 := hk2.keep hb01
        replace hxE := hxE.keep hb01
        replace hyE := hyE.keep hb01
        have q0 : World.cell? w1 ⟨w.heap.size, 0, none⟩ = some (.slice A b.length c) := hk1.cell 0
        have f0 := hk1.frozen 0
        have fl := hk1.lt
        have r0 : World.cell? w1 ⟨(w.heap.size + 1), 0, none⟩ = some (.slice K kp.length ck) := hk2.cell 0
        have s0 := hk2.frozen 0
        have sl := hk2.lt
        go_wp2
        go_quiet ((go_at_call 40; exact quiet_left (HW.out _ hxE)))
        go_wp2
        go_ret2
        exact RetG.no HS.out (below_drewN hB1 _)
  · have c0 : (bothE12 p b != 0) = true := by rw [bne_iff_ne]; exact h0
    have HS : Hid (keepS p b kp = ([], bothE12 p b)) := Lib.hid (by unfold keepS; rw [if_pos h0])
    clear h0
    go_enter Try.func24, Try.ntmps24
    go_wp2_with fail
    rw [← hwE]
    clear hwE
    refine (HC.out _ _ (Blk.newAt _ _ hsE) (hxE.keep hbF)).mono ?_
    rintro _ w1 ⟨rfl, hb1⟩
    have hb01 := bstep hbF hb1
    have hB1 := bstep hbE hb01
    replace hk1 := hk1.keep hb01
    replace hk2 := hk2.keep hb01
    replace hxE := hxE.keep hb01
    replace hyE := hyE.keep hb01
    have q0 : World.cell? w1 ⟨w.heap.size, 0, none⟩ = some (.slice A b.length c) := hk1.cell 0
    have f0 := hk1.frozen 0
    have fl := hk1.lt
    have r0 : World.cell? w1 ⟨(w.heap.size + 1), 0, none⟩ = some (.slice K kp.length ck) := hk2.cell 0
    have s0 := hk2.frozen 0
    have sl := hk2.lt
    go_wp2
    go_ret2
    exact RetG.no HS.out hB1
end Bk
end Go.Proofs.Ytnhjeelcgfobnaa
