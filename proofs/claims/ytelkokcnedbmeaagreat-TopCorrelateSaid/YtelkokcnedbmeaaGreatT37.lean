/-
  Parts of the proof of TopCorrelate: TsH TpM Reg RegM.
-/
import Derived.Test.YtelkokcnedbmeaaGreatT36
import Derived.Test.YtelkokcnedbmeaaGreatT35
import Derived.Test.YtelkokcnedbmeaaGreatT15
import Derived.Test.YtelkokcnedbmeaaGreatT04
import Derived.Deep.Onto
import Derived.Deep.DrawnRows
import Derived.Deep.RegionLaw
import Derived.Laws.CopyOwn
import Derived.Test.YtelkokcnedbmeaaGreatT01
import Derived.Orders
import Derived.Deep.AppendLies
import Derived.Test.YtelkokcnedbmeaaGreatT14
import Derived.Deep.RegionLawGrows
import Derived.Test.YtelkokcnedbmeaaGreatT13
import Derived.Deep.DeepCutAuto
namespace Go.Proofs.YtelkokcnedbmeaaGreat
open Go.RowKit
set_option maxRecDepth 20000
set_option linter.unusedSimpArgs false
set_option linter.unusedVariables false
namespace Srch
theorem cells5 {w : World} {g : Nat} {t : TypeId} {C : Cl} (h : Blk w g t (encC C).toArray) :
 (w.cell? ⟨g, 0, none⟩ = some (.int .i64 C.d) ∧ w.cell? ⟨g, 1, none⟩ = some (.int .i64 C.r) ∧ w.cell? ⟨g, 2, none⟩ = some (.int .i64 C.re) ∧ w.cell? ⟨g, 3, none⟩ = some (.int .i64 C.im) ∧ w.cell? ⟨g, 4, none⟩ = some (.int .i64 C.pw)) ∧ (w.frozen? ⟨g, 0, none⟩ = false ∧ w.frozen? ⟨g, 1, none⟩ = false ∧ w.frozen? ⟨g, 2, none⟩ = false ∧ w.frozen? ⟨g, 3, none⟩ = false ∧ w.frozen? ⟨g, 4, none⟩ = false) :=
 ⟨⟨h.cell 0, h.cell 1, h.cell 2, h.cell 3, h.cell 4⟩, h.frozen 0, h.frozen 1, h.frozen 2, h.frozen 3, h.frozen 4⟩
theorem put5 {w : World} {g : Nat} {t : TypeId} {C : Cl} (h : Blk w g t (encC C).toArray) (D : Cl) :
 Blk (((((w.setCell ⟨g, 0, none⟩ (.int .i64 D.d)).setCell ⟨g, 1, none⟩ (.int .i64 D.r)).setCell ⟨g, 2, none⟩ (.int .i64 D.re)).setCell ⟨g, 3, none⟩ (.int .i64 D.im)).setCell ⟨g, 4, none⟩ (.int .i64 D.pw)) g t (encC D).toArray :=
 ((((h.put 0 _).put 1 _).put 2 _).put 3 _).put 4 _
theorem bset5 {B : Nat} {w W : World} (h : Below B w W) {g : Nat} (hg : B ≤ g) (a b c d e : Value) :
 Below B w (((((W.setCell ⟨g, 0, none⟩ a).setCell ⟨g, 1, none⟩ b).setCell ⟨g, 2, none⟩ c).setCell ⟨g, 3, none⟩ d).setCell ⟨g, 4, none⟩ e) :=
 ((((h.setCell (p := ⟨g, 0, none⟩) hg _).setCell (p := ⟨g, 1, none⟩) hg _).setCell (p := ⟨g, 2, none⟩) hg _).setCell (p := ⟨g, 3, none⟩) hg _).setCell (p := ⟨g, 4, none⟩) hg _
theorem bestTo_zero (l : List Cl) : bestTo l 0 = zeroC := rfl
theorem grid_bd {xs ys : List Int} {m : Nat} {s : Int} (hm : m ≤ 32) (j : Nat) (hj : j < gridN m) : -32 ≤ (gridAt xs ys m s j).d ∧ (gridAt xs ys m s j).d ≤ 32 := by
 unfold gridN at hj
 unfold gridAt
 rw [cellS_d]
 omega
theorem best_bd {xs ys : List Int} {m : Nat} {s : Int} (hm : m ≤ 32) (k : Nat) (hk : k ≤ gridN m) : -32 ≤ (bestTo (fullL (gridAt xs ys m s) (gridN m)) k).d ∧ (bestTo (fullL (gridAt xs ys m s) (gridN m)) k).d ≤ 32 := by
 rcases Nat.eq_zero_or_pos k with rfl | h
 ·rw [bestTo_zero]; simp [zeroC]
 ·obtain ⟨⟨j, hj, _, hb⟩, _⟩ := best_is (l := fullL (gridAt xs ys m s) (gridN m)) h (by rw [fullL_len]; exact hk)
  rw [← hb, fullL_get]
  exact grid_bd hm j (by simpa [fullL_len] using hj)
set_option maxHeartbeats 4000000 in
theorem searchBest_any (A B : Option Addr) (c e : Nat) (xs ys : List Int) (most s : Int) (w : World) (hx : RI .i64 w A xs) (hy : RI .i64 w B ys) (hl : xs.length ≤ 140737488355328) (hl2 : ys.length ≤ 140737488355328) :
 Calls Tryz.prog 19 #[.slice A xs.length c, .slice B ys.length e, .int .i64 most, .int .i64 s] w fun e w' => e = .returned (atV (bestSpec xs ys most s)) ∧ Below w.heap.size w w' := by
 have hb0 : Below w.heap.size w (w.alloc (.cells zeroCs 52)) := balloc (Below.refl _ _) _
 have hR0 : Blk (w.alloc (.cells zeroCs 52)) w.heap.size 52 (encC zeroC).toArray := Blk.new w _ _
 have hgr := searchGrid_any A B c e xs ys most s _ (hx.keep hb0) (hy.keep hb0) hl hl2
 by_cases hok : (gridSpec xs ys most s).2 = 0
 ·have hask : askErr xs ys s = 0 ∧ 0 ≤ most ∧ most ≤ 32 := by
   unfold gridSpec at hok
   repeat' split at hok
   all_goals (simp only [] at hok; omega)
  obtain ⟨hE, hm1, hm2⟩ := hask
  obtain ⟨m, rfl⟩ := Int.eq_ofNat_of_zero_le hm1
  rw [grid_ok hE ⟨hm1, hm2⟩] at hgr
  have HE := Lib.hid hE
  clear hok hE
  go_enter Tryz.func19, Tryz.ntmps19
  go_wp2_with fail
  refine (hgr).mono ?_
  rintro _ w2 ⟨A2, c2, rfl, ho2, hb2⟩
  clear hgr
  simp only [] at ho2
  have hG := own_RR encC_len ho2
  have hL : (fullL (gridAt xs ys m s) (gridN m)).length = gridN m := fullL_len _ _
  rw [hL] at ho2 ⊢
  have hR2 := hR0.keep hb2
  have hB2 := bstep hb0 hb2
  have hN : gridN m = 8 * m + 4 := by unfold gridN; omega
  have HN := Lib.hid hN
  have HL := Lib.hid hL
  have hbig : gridN m ≤ 300 := by omega
  clear ho2 hb2 hR0 hb0 hN hL
  go_wp2
  go_loopg [13, 14, 29] (gridN m) (fun gk _ _ i wr => ∃ k : Nat, k + gk = gridN m ∧ i = .int .i64 k ∧ Blk wr w2.heap.size 97 (encC (bestTo (fullL (gridAt xs ys m s) (gridN m)) k)).toArray ∧ Below w2.heap.size w2 wr)
  case atStart => exact ⟨0, by omega, rfl, Blk.new w2 _ _, balloc (Below.refl _ _) _⟩
  case round =>
   obtain ⟨k, hk, rfl, hO, hb⟩ := hrel
   have hR := hR2.keep hb
   have hgR2 := hR2.lt
   have hk' : k ≤ gridN m := by omega
   have HK := Lib.hid hk
   clear hk
   have hgO := hO.lt
   have hgR := hR.lt
   have hsz := hb.size
   have hsz2 := hB2.size
   obtain ⟨b, hb'⟩ : ∃ b, b = bestTo (fullL (gridAt xs ys m s) (gridN m)) k := ⟨_, rfl⟩
   have hbd := best_bd (xs := xs) (ys := ys) (s := s) (m := m) (by omega) k hk'
   rw [← hb'] at hO hbd
   have HB := Lib.hid hb'
   clear hb'
   obtain ⟨⟨o0, o1, o2, o3, o4⟩, p0, p1, p2, p3, p4⟩ := cells5 hO
   by_cases hlt : k < gridN m
   ·have hlt' : k < (fullL (gridAt xs ys m s) (gridN m)).length := by rw [HL.out]; exact hlt
    obtain ⟨b1, off1, rfl, hlw1, hcs⟩ := hG.at_ hlt'
    rw [fullL_get] at hcs
    have hgd := grid_bd (xs := xs) (ys := ys) (s := s) (m := m) (by omega) k hlt
    obtain ⟨C, hC⟩ : ∃ C, C = gridAt xs ys m s k := ⟨_, rfl⟩
    rw [← hC] at hcs hgd
    have HC := Lib.hid hC
    clear hC
    obtain ⟨a0, a1, a2, a3, a4⟩ := encC_at (fun i hi => (hb.cell (p := ⟨b1, _, none⟩) hlw1).trans (hcs i hi))
    by_cases h0 : k = 0
    ·have t0 : ((k : Int) == 0) = true := by simp; omega
     have HZ := Lib.hid h0
     clear h0 hcs
     go_wp2
     go_roundg (gk - 1)
     case rel =>
      refine ⟨k + 1, by have := HK.out; omega, by go_num, ?_, bset5 hb (by omega) _ _ _ _ _⟩
      have e1 : bestTo (fullL (gridAt xs ys m s) (gridN m)) (k + 1) = C := by
       have h0 := HZ.out
       have h1 := HC.out
       rw [h0, bestTo_one (by omega), fullL_get, h1, h0]
      rw [e1]
      exact put5 hO C
     case measure => have := HK.out; omega
    ·have t0 : ((k : Int) == 0) = false := by simp; omega
     go_wp2_with fail
     refine (isBetter_any C b _ (by omega) (by omega) (by omega) (by omega)).mono ?_
     rintro _ w3 ⟨rfl, hb3⟩
     have hO3 := hO.keep hb3
     have hB3 : Below w2.heap.size w2 w3 := bstep hb hb3
     obtain ⟨c0, c1, c2, c3, c4⟩ := encC_at (fun i hi => (hB3.cell (p := ⟨b1, _, none⟩) hlw1).trans (hcs i hi))
     obtain ⟨⟨u0, u1, u2, u3, u4⟩, v0, v1, v2, v3, v4⟩ := cells5 hO3
     have hg3 := hO3.lt
     have hs3 := hb3.size
     clear hcs a0 a1 a2 a3 a4 o0 o1 o2 o3 o4 p0 p1 p2 p3 p4
     have hn : bestTo (fullL (gridAt xs ys m s) (gridN m)) (k + 1) = if betterB C b then C else b := by
      rw [bestTo_succ (by omega) hlt', fullL_get, ← HC.out, ← HB.out]
     by_cases hbt : betterB C b = true
     ·rw [if_pos hbt] at hn
      have HN2 := Lib.hid hn
      clear hn
      go_wp2
      go_roundg (gk - 1)
      case rel =>
       refine ⟨k + 1, by have := HK.out; omega, by go_num, ?_, bset5 hB3 (by omega) _ _ _ _ _⟩
       rw [HN2.out]
       exact put5 hO3 C
      case measure => have := HK.out; omega
     ·rw [if_neg hbt] at hn
      have HN2 := Lib.hid hn
      have hbt' : betterB C b = false := by simpa using hbt
      clear hn hbt
      go_wp2
      go_roundg (gk - 1)
      case rel =>
       refine ⟨k + 1, by have := HK.out; omega, by go_num, ?_, hB3⟩
       rw [HN2.out]
       exact hO3
      case measure => have := HK.out; omega
   ·have hkl : k = gridN m := by omega
    obtain ⟨⟨r0, r1, r2, r3, r4⟩, q0, q1, q2, q3, q4⟩ := cells5 hR
    have hbb : b = bestOf (fullL (gridAt xs ys m s) (gridN m)) := by rw [HB.out, bestTo_all _ _ (by rw [HL.out]; omega)]
    have HBB := Lib.hid hbb
    clear hbb hkl
    by_cases hz : b.pw = 0
    ·have ez : (b.pw == 0) = true := by simp [hz]
     have HZ := Lib.hid hz
     clear hz
     go_wp2
     refine bodyPost_ret (v := atV (zeroC, 18)) (by simp [results, Tryz.results19, go_sem, r0, r1, r2, r3, r4, zeroC]) rfl ⟨?_, bset5 (bstep hB2 hb) (by omega) _ _ _ _ _⟩
     rw [best_none HE.out ⟨hm1, hm2⟩ (by rw [← HBB.out]; exact HZ.out)]
    ·have ez : (b.pw == 0) = false := by simp [hz]
     have HZ := Lib.hid hz
     clear hz
     go_wp2
     refine bodyPost_ret (v := atV (b, 0)) (by simp [results, Tryz.results19, go_sem, r0, r1, r2, r3, r4]) rfl ⟨?_, bset5 (bstep hB2 hb) (by omega) _ _ _ _ _⟩
     rw [best_ok HE.out ⟨hm1, hm2⟩ (by rw [← HBB.out]; exact HZ.out), HBB.out]
 ·have e1 : ((gridSpec xs ys most s).2 != 0) = true := by simp [hok]
  have hsp : bestSpec xs ys most s = (zeroC, (gridSpec xs ys most s).2) ∧ (gridSpec xs ys most s).1 = [] := by
   by_cases h1 : askErr xs ys s = 0
   ·by_cases h2 : 0 ≤ most ∧ most ≤ 32
    ·rw [grid_ok h1 h2] at hok; simp at hok
    ·rw [grid_arg h1 h2, best_arg h1 h2]; exact ⟨rfl, rfl⟩
   ·rw [grid_err h1, best_err h1]; exact ⟨rfl, rfl⟩
  have HS := Lib.hid hsp.1
  clear hok hsp
  obtain ⟨⟨r0, r1, r2, r3, r4⟩, q0, q1, q2, q3, q4⟩ := cells5 hR0
  go_enter Tryz.func19, Tryz.ntmps19
  go_wp2_with fail
  refine (hgr).mono ?_
  rintro _ w2 ⟨A2, c2, rfl, ho2, hb2⟩
  have hR2 := hR0.keep hb2
  obtain ⟨⟨r0, r1, r2, r3, r4⟩, q0, q1, q2, q3, q4⟩ := cells5 hR2
  have hg2 := hR2.lt
  have hB2 := bstep hb0 hb2
  clear ho2 hb2 hgr
  generalize (gridSpec xs ys most s).1.length = nn at *
  go_wp2
  refine bodyPost_ret (v := atV (zeroC, (gridSpec xs ys most s).2)) (by simp [results, Tryz.results19, go_sem, r0, r1, r2, r3, r4, zeroC]) rfl ⟨?_, bset5 hB2 (by omega) _ _ _ _ _⟩
  rw [HS.out]
end Srch
end Go.Proofs.YtelkokcnedbmeaaGreat
namespace Go.Proofs.YtelkokcnedbmeaaGreat
open Go.RowKit Runs Lagc
set_option maxRecDepth 20000
set_option linter.unusedVariables false
set_option linter.unusedSimpArgs false
namespace Tpm
open Lagw
theorem ri_lv {W : World} {g : Nat} {t : TypeId} (xs : List Int) {cs : Array Value} (h : Blk W g t cs) (hc : cs = (xs.flatMap (encI .i64)).toArray) : RI .i64 W (some ⟨g, 0, none⟩) xs := by subst hc; exact blk_RI h
def vL : List Int := [20, -4, -30, 3, 9, -12, 40, -1]
def vX : List Int := [3, -1, -3, 1, 1, -3, 3, -1]
def vY : List Int := [0, 0, 3, -1, -3, 1, 1, -3]
theorem v_lvl : Smp.lvl vL := by
 refine ⟨by decide, ?_⟩
 unfold vL
 simp
theorem v_take : fullL (fun i => Smp.takeF 10 (vL.getD i 0)) 8 = vX := by decide
theorem v_x : streamErr vX = 0 := by decide
theorem v_y : streamErr vY = 0 := by decide
theorem v_delay : Aln.delaySpec vX 2 = (vY, 0) := by decide +kernel
theorem v_best : Srch.bestSpec vX vY 4 8 = (⟨2, 0, 30, 0, 900⟩, 0) := by decide +kernel
theorem v_len : (lagCells vX vY 4).length = 9 := lagCells_len _ _ _
theorem v_peak : Lagp.peakSpec (lagCells vX vY 4) = (2, 0) := by decide +kernel
theorem take_v (A : Option Addr) (c : Nat) (w : World) (hx : RI .i64 w A vL) :
 Calls Tryz.prog 17 #[.slice A 8 c, .int .i64 10] w fun e w' => ∃ g, e = .returned (.tuple #[.slice (some ⟨g, 0, none⟩) 8 8, .int .i64 0]) ∧ RI .i64 w' (some ⟨g, 0, none⟩) vX ∧ Below w.heap.size w w' := by
 refine (Smp.take_any A c vL 10 w hx v_lvl (by omega) (by omega)).mono ?_
 rintro e w' ⟨g, rfl, h, hb⟩
 exact ⟨g, rfl, by rw [← v_take]; exact h, hb⟩
theorem delay_v (A : Option Addr) (c : Nat) (w : World) (hx : RI .i64 w A vX) :
 Calls Tryz.prog 18 #[.slice A 8 c, .int .i64 2] w fun e w' => ∃ B d, e = .returned (.tuple #[.slice B 8 d, .int .i64 0]) ∧ RI .i64 w' B vY ∧ 8 ≤ d ∧ Below w.heap.size w w' := by
 refine (Aln.alignDelay_any A c vX 2 w hx (by decide)).mono ?_
 rintro e w' ⟨B, d, rfl, h, hb⟩
 rw [v_delay] at h ⊢
 obtain ⟨_, _, e1, e2⟩ := own_shape' h
 injection e1 with _ _ e3
 subst e3
 exact ⟨B, _, rfl, own_RI h, e2, hb⟩
theorem best_v (A B : Option Addr) (c d : Nat) (w : World) (hx : RI .i64 w A vX) (hy : RI .i64 w B vY) :
 Calls Tryz.prog 19 #[.slice A 8 c, .slice B 8 d, .int .i64 4, .int .i64 8] w fun e w' => e = .returned (.tuple #[.agg #[.int .i64 2, .int .i64 0, .int .i64 30, .int .i64 0, .int .i64 900], .int .i64 0]) ∧ Below w.heap.size w w' := by
 have h := Srch.searchBest_any A B c d vX vY 4 8 w hx hy (by decide) (by decide)
 rw [v_best] at h
 exact h
theorem peak_v (A : Option Addr) (c : Nat) (w : World) (hx : RL w A (lagCells vX vY 4)) :
 Calls Tryz.prog 20 #[.slice A 9 c] w fun e w' => e = .returned (.tuple #[.int .i64 2, .int .i64 0]) ∧ Below w.heap.size w w' := by
 have h := Lagp.lagPeak_any A c (lagCells vX vY 4) w hx (by rw [v_len]; omega)
 rw [v_peak, v_len] at h
 exact h
set_option maxRecDepth 20000 in
set_option maxHeartbeats 8000000 in
theorem alive_any (w : World) : Calls Tryz.prog 4 #[] w fun e w' => e = .returned (.bool true) ∧ Below w.heap.size w w' := by
 have hB := Below.refl w.heap.size w
 go_enter Tryz.func4, Tryz.ntmps4
 go_wp2_with fail
 refine (take_v _ _ _ (ri_lv vL (Blk.newAt (g := w.heap.size) 3 _ rfl) rfl)).mono ?_
 rintro _ w1 ⟨g1, rfl, r1, hb1⟩
 replace hB := bstep (balloc hB _) hb1
 clear hb1
 go_wp2_with fail
 refine (delay_v _ _ _ r1).mono ?_
 rintro _ w2 ⟨B2, d2, rfl, r2, hd2, hb2⟩
 replace hB := bstep hB hb2
 replace r1 := r1.keep hb2
 clear hb2
 go_wp2_with fail
 refine (best_v _ _ _ _ _ r1 r2).mono ?_
 rintro _ w3 ⟨rfl, hb3⟩
 replace hB := bstep hB hb3
 replace r1 := r1.keep hb3
 replace r2 := r2.keep hb3
 clear hb3
 go_wp2_with fail
 obtain ⟨u3, hu3⟩ : ∃ u3, u3 = w3.alloc (.cells #[.int .i64 2, .int .i64 0, .int .i64 30, .int .i64 0, .int .i64 900] 52) := ⟨_, rfl⟩
 have vC : Blk u3 w3.heap.size 52 #[.int .i64 2, .int .i64 0, .int .i64 30, .int .i64 0, .int .i64 900] := by rw [hu3]; exact Blk.new _ _ _
 have hbu : Below w3.heap.size w3 u3 := by rw [hu3]; exact balloc (Below.refl _ _) _
 rw [← hu3]
 clear hu3
 replace hB := bstep hB hbu
 replace r1 := r1.keep hbu
 replace r2 := r2.keep hbu
 clear hbu
 refine (cross_l (M := 4) (T := 9) (n1 := 8) (n2 := 8) v_x v_y (by omega) (by omega) rfl rfl (by omega) hd2 _ r1 r2).mono ?_
 rintro _ w4 ⟨A4, c4, rfl, r4, hb4⟩
 replace hB := bstep hB hb4
 replace r1 := r1.keep hb4
 replace vC := vC.keep hb4
 clear hb4
 clear r2
 go_wp2_with fail
 refine (peak_v _ _ _ r4).mono ?_
 rintro _ w5 ⟨rfl, hb5⟩
 replace hB := bstep hB hb5
 replace r1 := r1.keep hb5
 replace vC := vC.keep hb5
 clear hb5
 go_wp2_with fail
 refine (same13_l (xs := vX) _ (r1.keep (balloc (Below.refl _ _) _)) (ri_lv vX (Blk.newAt (g := w5.heap.size) 3 _ rfl) rfl) (by decide)).mono ?_
 rintro _ w6 ⟨rfl, hb6⟩
 replace hb6 := bstep (balloc (Below.refl _ _) _) hb6
 replace hB := bstep hB hb6
 replace vC := vC.keep hb6
 clear hb6
 have q0 : World.cell? w6 ⟨w3.heap.size, 0, none⟩ = some (.int .i64 2) := vC.cell 0
 have f0 := vC.frozen 0
 have q1 : World.cell? w6 ⟨w3.heap.size, 1, none⟩ = some (.int .i64 0) := vC.cell 1
 have f1 := vC.frozen 1
 have q2 : World.cell? w6 ⟨w3.heap.size, 2, none⟩ = some (.int .i64 30) := vC.cell 2
 have f2 := vC.frozen 2
 have q3 : World.cell? w6 ⟨w3.heap.size, 3, none⟩ = some (.int .i64 0) := vC.cell 3
 have f3 := vC.frozen 3
 have q4 : World.cell? w6 ⟨w3.heap.size, 4, none⟩ = some (.int .i64 900) := vC.cell 4
 have f4 := vC.frozen 4
 have fl := vC.lt
 go_wp2
 go_ret
 exact ⟨rfl, hB⟩
end Tpm
end Go.Proofs.YtelkokcnedbmeaaGreat
namespace Go.Proofs.YtelkokcnedbmeaaGreat
open Go
set_option maxRecDepth 20000
set_option linter.unusedVariables false
namespace Reg
section
variable {P : Program} {ops : Array Oper} {Q : Exit → Act → World → Prop}
def left (L : Array Bool) : Nat := L.toList.count false
theorem lt_of_un {L : Array Bool} {i : Nat} (h : L.getD i true = false) : i < L.size := by
 rcases Nat.lt_or_ge i L.size with h1 | h1
 ·exact h1
 ·rw [Array.getD_eq_getD_getElem?, Array.getElem?_eq_none h1] at h
  cases h
theorem left_set {L : Array Bool} {i : Nat} (h : L.getD i true = false) : left (L.setIfInBounds i true) + 1 = left L := by
 have hi := lt_of_un h
 have hv : L.toList[i]'(by simpa using hi) = false := by
  rw [Array.getD_eq_getD_getElem?, Array.getElem?_eq_getElem hi] at h
  simpa using h
 unfold left
 rw [Array.toList_setIfInBounds, List.count_set (by simpa using hi), hv]
 have hm : false ∈ L.toList := by rw [← hv]; exact List.getElem_mem _
 have := List.count_pos_iff.2 hm
 have e1 : (if (false == false) = true then 1 else 0) = 1 := rfl
 have e2 : (if (true == false) = true then 1 else 0) = 0 := rfl
 rw [e1, e2]
 omega
theorem wpAny_inv (I : Array Bool → Act → World → Prop)
 (hs : ∀ i o, ops[i]? = some o → ∀ L a w, I L a w → L.getD i true = false → (∀ e ∈ o.after, Region.binds .any e = true → L.getD e.on false = true) → wpOp P ops Q i (fun a' w' => I (L.setIfInBounds i true) a' w') a w)
 (hd : ∀ L a w, I L a w → Region.ready .any ops L = [] → Q .normal a w) :
 ∀ (fuel : Nat) (L : Array Bool) (a : Act) (w : World), I L a w → left L ≤ fuel → wpAny P .any ops Q fuel L a w := by
 intro fuel
 induction fuel with
 | zero =>
  intro L a w hI hl
  have hr : Region.ready .any ops L = [] := by
   rw [List.eq_nil_iff_forall_not_mem]
   intro j hj
   have := left_set (mem_ready.1 hj).1
   omega
  exact ⟨hr, hd L a w hI hr⟩
 | succ fuel ih =>
  intro L a w hI hl
  refine ⟨fun hr => hd L a w hI hr, fun i hi => ?_⟩
  obtain ⟨h1, o, ho, hdep⟩ := mem_ready.1 hi
  exact wpOp_mono (fun a' w' h3 => ih _ a' w' h3 (by have := left_set h1; omega)) (hs i o ho L a w hI h1 hdep)
def backB (ops : Array Oper) : Bool := (List.range ops.size).all fun i => ((ops[i]?).map fun o => o.after.all fun e => !Region.binds .any e || decide (e.on < i)).getD true
theorem all_listed (hb : backB ops = true) {L : Array Bool} (hsz : L.size = ops.size) (hr : Region.ready .any ops L = []) : ∀ i, i < ops.size → L.getD i false = true := by
 intro i
 induction i using Nat.strongRecOn with
 | ind i ih =>
  intro hi
  cases hv : L.getD i false with
  | true => rfl
  | false =>
   exfalso
   have hlt : i < L.size := by omega
   have hu : L.getD i true = false := by
    rw [Array.getD_eq_getD_getElem?, Array.getElem?_eq_getElem hlt] at hv ⊢
    exact hv
   have ho : ops[i]? = some ops[i] := Array.getElem?_eq_getElem hi
   have hmem : i ∈ Region.ready .any ops L := by
    refine mem_ready.2 ⟨hu, ops[i], ho, fun e he hbi => ?_⟩
    have h1 := List.all_eq_true.1 hb i (by simpa using hi)
    rw [ho] at h1
    simp only [Option.map_some, Option.getD_some] at h1
    have h2 := Array.all_eq_true_iff_forall_mem.1 h1 e he
    rw [hbi] at h2
    have h3 : e.on < i := by simpa using h2
    exact ih e.on h3 (by omega)
   rw [hr] at hmem
   cases hmem
structure Ev (ops : Array Oper) (a0 : Act) (L : Array Bool) (val : Nat → Value) (a : Act) : Prop where
 size : a.tmps.size = a0.tmps.size
 defers : a.defers = a0.defers
 at_ : ∀ j o d, ops[j]? = some o → o.dst = some d → L.getD j false = true → a.tmps[d]? = some (val j)
 out : ∀ t, (∀ j o, ops[j]? = some o → L.getD j false = true → o.dst ≠ some t) → a.tmps[t]? = a0.tmps[t]?
def upd (val : Nat → Value) (i : Nat) (v : Value) : Nat → Value := fun j => if j = i then v else val j
theorem upd_same (val : Nat → Value) (i : Nat) (v : Value) : upd val i v i = v := by simp [upd]
theorem upd_ne {val : Nat → Value} {i j : Nat} (v : Value) (h : j ≠ i) : upd val i v j = val j := by simp [upd, h]
def dstB (ops : Array Oper) (n : Nat) : Bool :=
 (List.range ops.size).all fun i => match (ops[i]?).bind (·.dst) with
   | none => true
   | some d => decide (d < n) && (List.range ops.size).all fun j => decide (i = j) || (ops[j]?).bind (·.dst) != some d
theorem dst_lt {n : Nat} (h : dstB ops n = true) {i d : Nat} {o : Oper} (ho : ops[i]? = some o) (hd : o.dst = some d) : d < n := by
 have hi : i < ops.size := by
  rcases Nat.lt_or_ge i ops.size with h1 | h1
  ·exact h1
  ·rw [Array.getElem?_eq_none h1] at ho; cases ho
 have h1 := List.all_eq_true.1 h i (by simpa using hi)
 rw [ho, Option.bind_some, hd] at h1
 simp only [Bool.and_eq_true, decide_eq_true_eq] at h1
 exact h1.1
theorem dst_ne {n : Nat} (h : dstB ops n = true) {i j d : Nat} {o o' : Oper} (ho : ops[i]? = some o) (ho' : ops[j]? = some o') (hd : o.dst = some d) (hij : i ≠ j) : o'.dst ≠ some d := by
 have hi : i < ops.size := by
  rcases Nat.lt_or_ge i ops.size with h1 | h1
  ·exact h1
  ·rw [Array.getElem?_eq_none h1] at ho; cases ho
 have hj : j < ops.size := by
  rcases Nat.lt_or_ge j ops.size with h1 | h1
  ·exact h1
  ·rw [Array.getElem?_eq_none h1] at ho'; cases ho'
 have h1 := List.all_eq_true.1 h i (by simpa using hi)
 rw [ho, Option.bind_some, hd] at h1
 simp only [Bool.and_eq_true] at h1
 have h2 := List.all_eq_true.1 h1.2 j (by simpa using hj)
 rw [ho', Option.bind_some] at h2
 simp [hij] at h2
 exact h2
theorem on_set {L : Array Bool} {i k : Nat} (h : (L.setIfInBounds i true).getD k false = true) : k = i ∨ L.getD k false = true := by
 by_cases e : k = i
 ·exact .inl e
 ·rw [getD_set_ne false (fun h => e h.symm)] at h
  exact .inr h
theorem Ev.put {a0 a : Act} {L : Array Bool} {val : Nat → Value} (hE : Ev ops a0 L val a) (hsz : L.size = ops.size) (hdst : dstB ops a0.tmps.size = true) {i : Nat} {o : Oper} (ho : ops[i]? = some o) (v : Value) : Ev ops a0 (L.setIfInBounds i true) (upd val i v) (a.put o.dst v) := by
 cases hd : o.dst with
 | none =>
  refine ⟨hE.size, hE.defers, fun j oj d hj hdj hon => ?_, fun t ht => ?_⟩
  ·have hne : j ≠ i := by
    rintro rfl
    rw [ho] at hj
    cases hj
    rw [hd] at hdj
    cases hdj
   rw [upd_ne _ hne]
   exact hE.at_ j oj d hj hdj ((on_set hon).resolve_left hne)
  ·exact hE.out t (fun j oj hj hon => ht j oj hj (getD_set_true hon))
 | some d =>
  have hlt := dst_lt hdst ho hd
  refine ⟨by simpa [Act.put] using hE.size, hE.defers, fun j oj d' hj hdj hon => ?_, fun t ht => ?_⟩
  ·by_cases hji : j = i
   ·subst hji
    rw [ho] at hj
    cases hj
    rw [hd] at hdj
    cases hdj
    rw [upd_same]
    simp only [Act.put]
    rw [Array.getElem?_setIfInBounds_self_of_lt]
    rw [hE.size]
    exact hlt
   ·have hne := dst_ne hdst ho hj hd (fun e => hji e.symm)
    have hdd : d ≠ d' := fun e => hne (by rw [hdj, e])
    rw [upd_ne _ hji]
    simp only [Act.put]
    rw [Array.getElem?_setIfInBounds_ne hdd]
    exact hE.at_ j oj d' hj hdj ((on_set hon).resolve_left hji)
  ·by_cases htd : t = d
   ·subst htd
    have h1 : i < L.size := by
     rw [hsz]
     rcases Nat.lt_or_ge i ops.size with h1 | h1
     ·exact h1
     ·rw [Array.getElem?_eq_none h1] at ho; cases ho
    exact absurd hd (ht i o ho (by rw [Array.getD_eq_getD_getElem?, Array.getElem?_setIfInBounds_self_of_lt h1]; rfl))
   ·simp only [Act.put]
    rw [Array.getElem?_setIfInBounds_ne (fun e => htd e.symm)]
    exact hE.out t (fun j oj hj hon => ht j oj hj (getD_set_true hon))
def putL (val : Nat → Value) : Nat → List Oper → Act → Act
 | _, [], a => a
 | i, o :: l, a => putL val (i + 1) l (a.put o.dst (val i))
theorem put_size (a : Act) (d : Option Tmp) (v : Value) : (a.put d v).tmps.size = a.tmps.size := by cases d <;> simp [Act.put]
theorem put_defers (a : Act) (d : Option Tmp) (v : Value) : (a.put d v).defers = a.defers := by cases d <;> simp [Act.put]
theorem putL_defers (val : Nat → Value) (l : List Oper) : ∀ (i : Nat) (a : Act), (putL val i l a).defers = a.defers := by
 induction l with
 | nil => intro i a; rfl
 | cons o l ih => intro i a; rw [putL, ih, put_defers]
theorem putL_out (val : Nat → Value) (l : List Oper) : ∀ (i : Nat) (a : Act) (t : Nat), (∀ o ∈ l, o.dst ≠ some t) → (putL val i l a).tmps[t]? = a.tmps[t]? := by
 induction l with
 | nil => intro i a t _; rfl
 | cons o l ih =>
  intro i a t h
  rw [putL, ih _ _ _ (fun o' ho' => h o' (by simp [ho']))]
  have h1 := h o (by simp)
  cases hd : o.dst with
  | none => rfl
  | some d =>
   simp only [Act.put]
   rw [Array.getElem?_setIfInBounds_ne]
   intro e
   exact h1 (by rw [hd, e])
theorem putL_at (val : Nat → Value) (l : List Oper) : ∀ (i : Nat) (a : Act) (k t : Nat) (o : Oper), l[k]? = some o → o.dst = some t → t < a.tmps.size → (∀ j o', l[j]? = some o' → j ≠ k → o'.dst ≠ some t) → (putL val i l a).tmps[t]? = some (val (i + k)) := by
 induction l with
 | nil => intro i a k t o h; simp at h
 | cons o l ih =>
  intro i a k t o' hk hd hlt hne
  rw [putL]
  cases k with
  | zero =>
   simp only [List.getElem?_cons_zero, Option.some.injEq] at hk
   subst hk
   rw [putL_out]
   ·rw [hd]
    simp only [Act.put]
    rw [Array.getElem?_setIfInBounds_self_of_lt hlt]
    rfl
   ·intro o'' ho''
    obtain ⟨j, hj, e⟩ := List.getElem_of_mem ho''
    exact hne (j + 1) o'' (by simp [List.getElem?_eq_getElem hj, e]) (by omega)
  | succ k =>
   simp only [List.getElem?_cons_succ] at hk
   rw [ih (i + 1) _ k t o' hk hd (by rw [put_size]; exact hlt) (fun j o'' hj hjk => hne (j + 1) o'' (by simpa using hj) (by omega)), show i + 1 + k = i + (k + 1) by omega]
theorem Ev.all {a0 a : Act} {L : Array Bool} {val : Nat → Value} (hE : Ev ops a0 L val a) (hdst : dstB ops a0.tmps.size = true) (hall : ∀ i, i < ops.size → L.getD i false = true) : a = putL val 0 ops.toList a0 := by
 have key : a.tmps = (putL val 0 ops.toList a0).tmps := by
  apply Array.ext_getElem?
  intro t
  by_cases h : ∃ (k : Nat) (o : Oper), ops[k]? = some o ∧ o.dst = some t
  ·obtain ⟨k, o, ho, hd⟩ := h
   have hk : k < ops.size := by
    rcases Nat.lt_or_ge k ops.size with h1 | h1
    ·exact h1
    ·rw [Array.getElem?_eq_none h1] at ho; cases ho
   rw [hE.at_ k o t ho hd (hall k hk), putL_at val ops.toList 0 a0 k t o (by simpa using ho) hd (dst_lt hdst ho hd) (fun j o' hj hjk => dst_ne hdst ho (by simpa using hj) hd (fun e => hjk e.symm)), Nat.zero_add]
  ·rw [hE.out t (fun j (o : Oper) hj _ hd => h ⟨j, o, hj, hd⟩), putL_out]
   intro o ho hd
   obtain ⟨j, hj, e⟩ := List.getElem_of_mem ho
   exact h ⟨j, o, by simp at hj; rw [Array.getElem?_eq_getElem hj]; simpa using e, hd⟩
 have kd : a.defers = (putL val 0 ops.toList a0).defers := by rw [putL_defers]; exact hE.defers
 cases a
 cases hp : putL val 0 ops.toList a0
 rw [hp] at key kd
 simp only at key kd
 rw [key, kd]
def StepOk (P : Program) (ops : Array Oper) (Q : Exit → Act → World → Prop) (a0 : Act) (J : Array Bool → (Nat → Value) → World → Prop) (i : Nat) (o : Oper) : Prop :=
 ∀ (L : Array Bool) (val : Nat → Value) (a : Act) (w : World), L.size = ops.size → J L val w → L.getD i true = false → (∀ e ∈ o.after, Region.binds .any e = true → L.getD e.on false = true) → Ev ops a0 L val a →
  ∀ K : Act → World → Prop, (∀ v w', J (L.setIfInBounds i true) (upd val i v) w' → K (a.put o.dst v) w') → if Region.wanted o (yielded ops a.tmps) = true then o.wp P a w K Q else K (a.put o.dst undef) w
def AllIdx (f : Nat → Oper → Prop) : Nat → List Oper → Prop
 | _, [] => True
 | i, o :: l => f i o ∧ AllIdx f (i + 1) l
theorem AllIdx.at_ {f : Nat → Oper → Prop} (l : List Oper) : ∀ (i : Nat), AllIdx f i l → ∀ k o, l[k]? = some o → f (i + k) o := by
 induction l with
 | nil => intro i _ k o h; simp at h
 | cons x l ih =>
  intro i h k o hk
  cases k with
  | zero =>
   simp only [List.getElem?_cons_zero, Option.some.injEq] at hk
   subst hk
   exact h.1
  | succ k =>
   simp only [List.getElem?_cons_succ] at hk
   have := ih (i + 1) h.2 k o hk
   rwa [show i + 1 + k = i + (k + 1) by omega] at this
theorem wp_region_val {id : Nat} {a0 : Act} {w : World} (hm : P.follows .mixedOrders = true) (hback : backB ops = true) (hdst : dstB ops a0.tmps.size = true)
 (J : Array Bool → (Nat → Value) → World → Prop) (h0 : J (Array.replicate ops.size false) (fun _ => undef) w.drew) (hs : AllIdx (StepOk P ops Q a0 J) 0 ops.toList)
 (hd : ∀ L val w', (∀ i, i < ops.size → L.getD i false = true) → J L val w' → Q .normal (putL val 0 ops.toList a0) w') : (Code.region id ops true).wp P Q a0 w := by
 refine wp_region_any hm ?_
 refine wpAny_inv (fun L a w => L.size = ops.size ∧ ∃ val, J L val w ∧ Ev ops a0 L val a) ?_ ?_ _ _ _ _ ?_ ?_
 ·rintro i o ho L a w ⟨hsz, val, hJ, hE⟩ hu hdep
  have hS : StepOk P ops Q a0 J i o := by
   have := hs.at_ _ _ i o (by simpa using ho)
   rwa [Nat.zero_add] at this
  have h1 := hS L val a w hsz hJ hu hdep hE (fun a' w' => (L.setIfInBounds i true).size = ops.size ∧ ∃ val, J (L.setIfInBounds i true) val w' ∧ Ev ops a0 (L.setIfInBounds i true) val a') (fun v w' hJ' => ⟨by simpa using hsz, upd val i v, hJ', hE.put hsz hdst ho v⟩)
  unfold wpOp
  simp only [ho]
  by_cases hw : Region.wanted o (yielded ops a.tmps) = true
  ·rw [if_pos hw] at h1 ⊢
   exact .inl h1
  ·rw [if_neg hw] at h1 ⊢
   exact h1
 ·rintro L a w ⟨hsz, val, hJ, hE⟩ hr
  have hall := all_listed hback hsz hr
  rw [hE.all hdst hall]
  exact hd L val w hall hJ
 ·refine ⟨by simp, fun _ => undef, h0, ⟨rfl, rfl, fun j o d _ _ hon => ?_, fun t _ => rfl⟩⟩
  exfalso
  rw [Array.getD_eq_getD_getElem?, Array.getElem?_replicate] at hon
  split at hon <;> simp at hon
 ·unfold left
  simp
theorem Ev.arg {a0 a : Act} {L : Array Bool} {val : Nat → Value} (hE : Ev ops a0 L val a) {o : Oper} (hdep : ∀ e ∈ o.after, Region.binds .any e = true → L.getD e.on false = true) (j d : Nat) {oj : Oper} (hj : ops[j]? = some oj) (hd : oj.dst = some d) (hw : (o.after.toList.any fun e => e.on == j && Region.binds .any e) = true) : a.eval (.tmp d) = val j ∧ L.getD j false = true := by
 obtain ⟨e, hm, he⟩ := List.any_eq_true.1 hw
 simp only [Bool.and_eq_true, beq_iff_eq] at he
 have hon := hdep e (by simpa using hm) he.2
 rw [he.1] at hon
 refine ⟨?_, hon⟩
 have := hE.at_ j oj d hj hd hon
 simp [Act.eval, Array.getD_eq_getD_getElem?, this]
theorem Ev.old {a0 a : Act} {L : Array Bool} {val : Nat → Value} (hE : Ev ops a0 L val a) (t : Nat) (h : (ops.toList.all fun o : Oper => o.dst != some t) = true) : a.eval (.tmp t) = a0.eval (.tmp t) := by
 have := hE.out t (fun j o hj _ hd => by
  have hm : o ∈ ops.toList := by
   obtain ⟨hlt, e⟩ := Array.getElem?_eq_some_iff.1 hj
   rw [← e]
   simp
  have := List.all_eq_true.1 h o hm
  rw [hd] at this
  simp at this)
 simp [Act.eval, Array.getD_eq_getD_getElem?, this]
end
end Reg
end Go.Proofs.YtelkokcnedbmeaaGreat
namespace Go.Proofs.YtelkokcnedbmeaaGreat
open Go Go.RowKit
set_option maxRecDepth 20000
set_option linter.unusedVariables false
set_option linter.unusedSimpArgs false
namespace Reg
section
variable {P : Program} {ops : Array Oper} {Q : Exit → Act → World → Prop}
theorem ev_tmps {a : Act} {t : Nat} {v : Value} (h : a.eval (.tmp t) = v) : a.tmps[t]?.getD undef = v := by rw [← h]; simp [Act.eval, Array.getD_eq_getD_getElem?]
theorem grown_put {a w : World} {b : Nat} (h : a.grownBy w (some b)) (i : Nat) (v : Value) : a.grownBy (w.setCell ⟨b, i, none⟩ v) (some b) :=
 ⟨h.os, h.tape, h.output, by simpa [World.setCell] using h.size, fun k hk hr => (Below.heap_setCell w ⟨b, i, none⟩ v k (fun e => hr (by rw [e]))).trans (h.block k hk hr)⟩
theorem below_grown {w w' : World} (h : Below w.heap.size w w') (row : Option Nat) : w.grownBy w' row := ⟨h.os, h.tape, h.output, h.size, fun k hk _ => h.block k hk⟩
end
end Reg
end Go.Proofs.YtelkokcnedbmeaaGreat
