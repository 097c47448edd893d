/-
  Parts of the proof of TopCorrelate: TsB.
-/
import Derived.Test.YtelkokcnedbmeaaGreatT33
import Derived.Deep.RegionHeld3
namespace Go.Proofs.YtelkokcnedbmeaaGreat
open Go.RowKit
set_option maxRecDepth 20000
set_option linter.unusedSimpArgs false
set_option linter.unusedVariables false
namespace Srch
theorem streamErr_zero {xs : List Int} (h : streamErr xs = 0) : xs.length ≤ 256 ∧ ∀ x ∈ xs, 0 ≤ digitOf x := by
 unfold streamErr at h
 split at h
 ·omega
 ·split at h
  ·rename_i h1 h2
   exact ⟨by omega, by simpa using h2⟩
  ·omega
theorem digit_bd {x : Int} (h : 0 ≤ digitOf x) : -3 ≤ x ∧ x ≤ 3 := by
 unfold digitOf at h
 repeat' split at h
 all_goals omega
theorem stream_bd {xs : List Int} (h : streamErr xs = 0) (k : Nat) : -3 ≤ xs.getD k 0 ∧ xs.getD k 0 ≤ 3 := by
 rcases Nat.lt_or_ge k xs.length with h1 | h1
 ·rw [getD_lt _ _ h1]
  exact digit_bd ((streamErr_zero h).2 _ (List.getElem_mem h1))
 ·simp [List.getD_eq_getElem?_getD, List.getElem?_eq_none h1]
def extS (xs : List Int) (j : Int) : Int := if 0 ≤ j then xs.getD j.toNat 0 else 0
theorem extS_in {xs : List Int} {j : Int} (h0 : 0 ≤ j) (h1 : j.toNat < xs.length) : extS xs j = xs[j.toNat] := by
 rw [extS, if_pos h0, getD_lt _ _ h1]
theorem extS_out {xs : List Int} {j : Int} (h : j < 0 ∨ (xs.length : Int) ≤ j) : extS xs j = 0 := by
 unfold extS
 split
 ·rw [List.getD_eq_getElem?_getD, List.getElem?_eq_none (by omega)]; rfl
 ·rfl
theorem extS_bd {xs : List Int} (h : streamErr xs = 0) (j : Int) : -3 ≤ extS xs j ∧ extS xs j ≤ 3 := by
 unfold extS
 split
 ·exact stream_bd h _
 ·omega
theorem mul9 {a b : Int} (h1 : -3 ≤ a ∧ a ≤ 3) (h2 : -3 ≤ b ∧ b ≤ 3) : -9 ≤ a * b ∧ a * b ≤ 9 := by
 have ha : a = -3 ∨ a = -2 ∨ a = -1 ∨ a = 0 ∨ a = 1 ∨ a = 2 ∨ a = 3 := by omega
 rcases ha with rfl | rfl | rfl | rfl | rfl | rfl | rfl <;> omega
def prodAt (xs ys : List Int) (d : Int) (k : Nat) : Int := xs.getD k 0 * extS ys ((k : Int) + d)
theorem prodAt_bd {xs ys : List Int} (hx : streamErr xs = 0) (hy : streamErr ys = 0) (d : Int) (k : Nat) : -9 ≤ prodAt xs ys d k ∧ prodAt xs ys d k ≤ 9 := mul9 (stream_bd hx k) (extS_bd hy _)
theorem turnG_bd {v : Int × Int} {B : Int} (q : Int) (h : -B ≤ v.1 ∧ v.1 ≤ B ∧ -B ≤ v.2 ∧ v.2 ≤ B) : -B ≤ (turnG v q).1 ∧ (turnG v q).1 ≤ B ∧ -B ≤ (turnG v q).2 ∧ (turnG v q).2 ≤ B := by
 unfold turnG
 repeat' split
 all_goals (first | omega | (simp only []; omega))
theorem turnG_zero (q : Int) : turnG (0, 0) q = (0, 0) := by
 unfold turnG
 repeat' split
 all_goals rfl
def quartAt (r s : Int) (k : Nat) : Int := -r * ((k : Int) / s)
theorem quot_bd {s : Int} {k : Nat} (h : 1 ≤ s) : 0 ≤ (k : Int) / s ∧ (k : Int) / s ≤ k := by
 exact ⟨Int.ediv_nonneg (by omega) (by omega), Int.ediv_le_self _ (by omega)⟩
theorem quart_bd {r s : Int} {k : Nat} (h : 1 ≤ s) (h1 : 0 ≤ r) (h2 : r ≤ 3) : -(3 * (k : Int)) ≤ -r * ((k : Int) / s) ∧ -r * ((k : Int) / s) ≤ 0 := by
 have := quot_bd (k := k) h
 have hr : r = 0 ∨ r = 1 ∨ r = 2 ∨ r = 3 := by omega
 rcases hr with rfl | rfl | rfl | rfl <;> omega
def partAt (xs ys : List Int) (d r s : Int) (k : Nat) : Int × Int := turnG (prodAt xs ys d k, 0) (quartAt r s k)
def cellSum (xs ys : List Int) (d r s : Int) : Nat → Int × Int
 | 0 => (0, 0)
 | k + 1 => ((cellSum xs ys d r s k).1 + (partAt xs ys d r s k).1, (cellSum xs ys d r s k).2 + (partAt xs ys d r s k).2)
theorem partAt_bd {xs ys : List Int} (hx : streamErr xs = 0) (hy : streamErr ys = 0) (d r s : Int) (k : Nat) : -9 ≤ (partAt xs ys d r s k).1 ∧ (partAt xs ys d r s k).1 ≤ 9 ∧ -9 ≤ (partAt xs ys d r s k).2 ∧ (partAt xs ys d r s k).2 ≤ 9 := by
 have := prodAt_bd hx hy d k
 exact turnG_bd _ ⟨this.1, this.2, by simp, by simp⟩
theorem cellSum_bd {xs ys : List Int} (hx : streamErr xs = 0) (hy : streamErr ys = 0) (d r s : Int) (k : Nat) : -(9 * (k : Int)) ≤ (cellSum xs ys d r s k).1 ∧ (cellSum xs ys d r s k).1 ≤ 9 * k ∧ -(9 * (k : Int)) ≤ (cellSum xs ys d r s k).2 ∧ (cellSum xs ys d r s k).2 ≤ 9 * k := by
 induction k with
 | zero => simp [cellSum]
 | succ k ih =>
  have := partAt_bd hx hy d r s k
  simp only [cellSum]
  omega
theorem cellSum_out {xs ys : List Int} {d r s : Int} {k : Nat} (h : (k : Int) + d < 0 ∨ (ys.length : Int) ≤ (k : Int) + d) : cellSum xs ys d r s (k + 1) = cellSum xs ys d r s k := by
 have : partAt xs ys d r s k = (0, 0) := by
  unfold partAt prodAt
  rw [extS_out h, Int.mul_zero, turnG_zero]
 rw [cellSum, this]
 simp
theorem sq_bd {a B : Int} (h1 : -B ≤ a) (h2 : a ≤ B) : 0 ≤ a * a ∧ a * a ≤ B * B := by
 rcases Int.le_total 0 a with h | h
 ·exact ⟨Int.mul_nonneg h h, Int.mul_le_mul h2 h2 h (by omega)⟩
 ·have h3 := Int.mul_le_mul (a := -a) (b := -a) (c := B) (d := B) (by omega) (by omega) (by omega) (by omega)
  have h4 := Int.mul_nonneg (a := -a) (b := -a) (by omega) (by omega)
  rw [Int.neg_mul_neg] at h3 h4
  exact ⟨h4, h3⟩
structure Cl where
 d : Int
 r : Int
 re : Int
 im : Int
 pw : Int
deriving DecidableEq
abbrev cellV (c : Cl) : Value := .agg #[.int .i64 c.d, .int .i64 c.r, .int .i64 c.re, .int .i64 c.im, .int .i64 c.pw]
def cellS (xs ys : List Int) (d r s : Int) : Cl :=
 let v := cellSum xs ys d r s xs.length
 ⟨d, r, v.1, v.2, v.1 * v.1 + v.2 * v.2⟩
set_option maxHeartbeats 4000000 in
theorem cellOf_any (A B : Option Addr) (c e : Nat) (xs ys : List Int) (d r s : Int) (w : World) (hx : RI .i64 w A xs) (hy : RI .i64 w B ys) (he : askErr xs ys s = 0) (hd : -32 ≤ d ∧ d ≤ 32) (hr : 0 ≤ r ∧ r ≤ 3) :
 Calls Tryz.prog 78 #[.slice A xs.length c, .slice B ys.length e, .int .i64 d, .int .i64 r, .int .i64 s] w fun e w' => e = .returned (cellV (cellS xs ys d r s)) ∧ Below w.heap.size w w' := by
 obtain ⟨he1, he2, hs1, hs2⟩ := askErr_zero he
 have hl1 := (streamErr_zero he1).1
 have hl2 := (streamErr_zero he2).1
 have HE1 := Lib.hid he1
 have HE2 := Lib.hid he2
 clear he he1 he2
 obtain ⟨hd1, hd2⟩ := hd
 obtain ⟨hr1, hr2⟩ := hr
 go_enter Tryz.func78, Tryz.ntmps78
 go_wp2
 go_loopg [12, 13, 14, 20] xs.length (fun gk _ _ _ i wr => ∃ k : Nat, k + gk = xs.length ∧ i = .int .i64 k ∧ Blk wr (w.heap.size + 1) 52 #[.int .i64 d, .int .i64 r, .int .i64 (cellSum xs ys d r s k).1, .int .i64 (cellSum xs ys d r s k).2, .int .i64 0] ∧ Blk wr w.heap.size 52 #[.int .i64 0, .int .i64 0, .int .i64 0, .int .i64 0, .int .i64 0] ∧ Below w.heap.size w wr)
 case atStart => exact ⟨0, by omega, rfl, Blk.newAt _ _ (by simp), (Blk.new w _ _).alloc _, balloc (balloc (Below.refl _ _) _) _⟩
 case round =>
  obtain ⟨k, hk, rfl, hO, hR, hb⟩ := hrel
  have hk' : k ≤ xs.length := by omega
  have HK := Lib.hid hk
  clear hk
  have hbd := cellSum_bd HE1.out HE2.out d r s k
  have o0 : wr.cell? ⟨w.heap.size + 1, 2, none⟩ = some (.int .i64 (cellSum xs ys d r s k).1) := hO.cell 2
  have o1 : wr.cell? ⟨w.heap.size + 1, 3, none⟩ = some (.int .i64 (cellSum xs ys d r s k).2) := hO.cell 3
  have p0 := hO.frozen 2
  have p1 := hO.frozen 3
  have hg := hO.lt
  have hg2 := hR.lt
  by_cases hlt : k < xs.length
  ·rcases (show (0 ≤ (k : Int) + d ∧ (k : Int) + d < ys.length) ∨ (k : Int) + d < 0 ∨ (0 ≤ (k : Int) + d ∧ (ys.length : Int) ≤ (k : Int) + d) by omega) with hin | hin
   ·obtain ⟨hin1, hin2⟩ := hin
    have hjn : ((k : Int) + d).toNat < ys.length := by omega
    obtain ⟨b1, off1, rfl, hlw1, hw1⟩ := hx.at2 hlt
    obtain ⟨b2, off2, rfl, hlw2, hw2⟩ := hy.at2 hjn
    rw [getD_lt _ _ hlt] at hw1
    rw [getD_lt _ _ hjn] at hw2
    have hc1 := (hb.cell (p := ⟨b1, _, none⟩) hlw1).trans hw1
    have hc2 := (hb.cell (p := ⟨b2, _, none⟩) hlw2).trans hw2
    go_wp2
    have hpr := prodAt_bd HE1.out HE2.out d k
    rw [prodAt, getD_lt _ _ hlt, extS_in hin1 hjn] at hpr
    have f1 : IntKind.i64.wrap (xs[k] * ys[((k : Int) + d).toNat]) = xs[k] * ys[((k : Int) + d).toNat] := IntWalk.i64_in _ (by omega)
    have hq1 : -9223372036854775807 ≤ ((xs[k] * ys[((k : Int) + d).toNat], (0 : Int)) : Int × Int).1 := by simp only []; omega
    have hq2 : ((xs[k] * ys[((k : Int) + d).toNat], (0 : Int)) : Int × Int).1 ≤ 9223372036854775807 := by simp only []; omega
    have hq3 : -9223372036854775807 ≤ ((xs[k] * ys[((k : Int) + d).toNat], (0 : Int)) : Int × Int).2 := by simp only []; omega
    have hq4 : ((xs[k] * ys[((k : Int) + d).toNat], (0 : Int)) : Int × Int).2 ≤ 9223372036854775807 := by simp only []; omega
    have z0 : ¬ s = 0 := by omega
    have z1 : (s == 0) = false := by simp [z0]
    have q1 := quot_bd (k := k) hs1
    have q2 := quart_bd (k := k) hs1 hr1 hr2
    have f2 : IntKind.i64.wrap ((k : Int) / s) = (k : Int) / s := IntWalk.i64_in _ (by omega)
    have f3 : IntKind.i64.wrap (-r) = -r := IntWalk.i64_in _ (by omega)
    have f4 : IntKind.i64.wrap (-r * ((k : Int) / s)) = -r * ((k : Int) / s) := IntWalk.i64_in _ (by omega)
    go_region_held3 (fun w' => w'.cell? ⟨b1, off1 + k, none⟩ = some (.int .i64 xs[k]) ∧ w'.cell? ⟨b2, off2 + ((k : Int) + d).toNat, none⟩ = some (.int .i64 ys[((k : Int) + d).toNat]))
     (first
       | go_keep
       | exact ⟨(hB3.cell (p := ⟨b1, _, none⟩) hlw1).trans hw1, (hB3.cell (p := ⟨b2, _, none⟩) hlw2).trans hw2⟩
       | exact ⟨((balloc hB3 _).cell (p := ⟨b1, _, none⟩) hlw1).trans hw1, ((balloc hB3 _).cell (p := ⟨b2, _, none⟩) hlw2).trans hw2⟩
       | exact ⟨(((hB3.setCell (p := ⟨wr.heap.size, 0, none⟩) hb.size _).setCell (p := ⟨wr.heap.size, 1, none⟩) hb.size _).cell (p := ⟨b1, _, none⟩) hlw1).trans hw1, (((hB3.setCell (p := ⟨wr.heap.size, 0, none⟩) hb.size _).setCell (p := ⟨wr.heap.size, 1, none⟩) hb.size _).cell (p := ⟨b2, _, none⟩) hlw2).trans hw2⟩)
     ((go_at_call 99; refine (turned_any (xs[k] * ys[((k : Int) + d).toNat], 0) (-r * ((k : Int) / s)) _ hq1 hq2 hq3 hq4).mono ?_; rintro e w3 ⟨rfl, hb3⟩; have hB3 : Below w.heap.size w w3 := (by first | exact bstep hb.drew hb3 | exact bstep (balloc hb _).drew hb3); (try (have hZ := ((Blk.new wr 50 #[.int .i64 0, .int .i64 0]).drew).keep hb3; have hz1 := hZ.frozen 0; have hz2 := hZ.frozen 1; have hz3 : w3.cell? ⟨wr.heap.size, 0, none⟩ = some (.int .i64 0) := hZ.cell 0; have hz4 : w3.cell? ⟨wr.heap.size, 1, none⟩ = some (.int .i64 0) := hZ.cell 1; have hz5 := hZ.lt))))
    ·have hO3 : Blk w3 (w.heap.size + 1) 52 #[.int .i64 d, .int .i64 r, .int .i64 (cellSum xs ys d r s k).1, .int .i64 (cellSum xs ys d r s k).2, .int .i64 0] := by exact hO.drew.keep hb3
     have hR3 : Blk w3 w.heap.size 52 #[.int .i64 0, .int .i64 0, .int .i64 0, .int .i64 0, .int .i64 0] := by exact hR.drew.keep hb3
     have o0 : w3.cell? ⟨w.heap.size + 1, 2, none⟩ = some (.int .i64 (cellSum xs ys d r s k).1) := hO3.cell 2
     have o1 : w3.cell? ⟨w.heap.size + 1, 3, none⟩ = some (.int .i64 (cellSum xs ys d r s k).2) := hO3.cell 3
     have p0 := hO3.frozen 2
     have p1 := hO3.frozen 3
     have hg3 := hO3.lt
     have hne : ¬ wr.heap.size = w.heap.size + 1 := by omega
     have hne' : ¬ w.heap.size + 1 = wr.heap.size := by omega
     have hpt : turnG (xs[k] * ys[((k : Int) + d).toNat], 0) (-r * ((k : Int) / s)) = partAt xs ys d r s k := by unfold partAt prodAt quartAt; rw [getD_lt _ _ hlt, extS_in hin1 hjn]
     have hpb := partAt_bd HE1.out HE2.out d r s k
     rw [hpt]
     obtain ⟨p, hp⟩ : ∃ p, p = partAt xs ys d r s k := ⟨_, rfl⟩
     rw [← hp] at hpb ⊢
     have HP := Lib.hid hp
     clear hp hpt f1 f2 f3 f4
     have hsz := hb.size
     have hst : Below w.heap.size w w3 := hB3
     go_wp2
     go_roundg (gk - 1)
     case rel =>
      refine ⟨k + 1, by have := HK.out; omega, by go_num, ?_, ?_, ?_⟩
      ·rw [cellSum, ← HP.out]
       exact ((hO3.put 2 _).put 3 _).alloc _
      ·exact ((hR3.far (p := ⟨w.heap.size + 1, 2, none⟩) (by simp) _).far (p := ⟨w.heap.size + 1, 3, none⟩) (by simp) _).alloc _
      ·exact balloc ((hst.setCell (p := ⟨w.heap.size + 1, 2, none⟩) (by simp) _).setCell (p := ⟨w.heap.size + 1, 3, none⟩) (by simp) _) _
     case measure => have := HK.out; omega
    ·have hO3 : Blk w3 (w.heap.size + 1) 52 #[.int .i64 d, .int .i64 r, .int .i64 (cellSum xs ys d r s k).1, .int .i64 (cellSum xs ys d r s k).2, .int .i64 0] := by exact (hO.alloc _).drew.keep hb3
     have hR3 : Blk w3 w.heap.size 52 #[.int .i64 0, .int .i64 0, .int .i64 0, .int .i64 0, .int .i64 0] := by exact (hR.alloc _).drew.keep hb3
     have o0 : w3.cell? ⟨w.heap.size + 1, 2, none⟩ = some (.int .i64 (cellSum xs ys d r s k).1) := hO3.cell 2
     have o1 : w3.cell? ⟨w.heap.size + 1, 3, none⟩ = some (.int .i64 (cellSum xs ys d r s k).2) := hO3.cell 3
     have p0 := hO3.frozen 2
     have p1 := hO3.frozen 3
     have hg3 := hO3.lt
     have hne : ¬ wr.heap.size = w.heap.size + 1 := by omega
     have hne' : ¬ w.heap.size + 1 = wr.heap.size := by omega
     have hpt : turnG (xs[k] * ys[((k : Int) + d).toNat], 0) (-r * ((k : Int) / s)) = partAt xs ys d r s k := by unfold partAt prodAt quartAt; rw [getD_lt _ _ hlt, extS_in hin1 hjn]
     have hpb := partAt_bd HE1.out HE2.out d r s k
     rw [hpt]
     obtain ⟨p, hp⟩ : ∃ p, p = partAt xs ys d r s k := ⟨_, rfl⟩
     rw [← hp] at hpb ⊢
     have HP := Lib.hid hp
     clear hp hpt f1 f2 f3 f4
     have hsz := hb.size
     have hst : Below w.heap.size w w3 := hB3
     go_wp2
     go_roundg (gk - 1)
     case rel =>
      refine ⟨k + 1, by have := HK.out; omega, by go_num, ?_, ?_, ?_⟩
      ·rw [cellSum, ← HP.out]
       exact (((hO3.far (p := ⟨wr.heap.size, 0, none⟩) hne' _).far (p := ⟨wr.heap.size, 1, none⟩) hne' _).put 2 _).put 3 _
      ·exact (((hR3.far (p := ⟨wr.heap.size, 0, none⟩) (by simp; omega) _).far (p := ⟨wr.heap.size, 1, none⟩) (by simp; omega) _).far (p := ⟨w.heap.size + 1, 2, none⟩) (by simp) _).far (p := ⟨w.heap.size + 1, 3, none⟩) (by simp) _
      ·exact (((hst.setCell (p := ⟨wr.heap.size, 0, none⟩) hsz _).setCell (p := ⟨wr.heap.size, 1, none⟩) hsz _).setCell (p := ⟨w.heap.size + 1, 2, none⟩) (by simp) _).setCell (p := ⟨w.heap.size + 1, 3, none⟩) (by simp) _
     case measure => have := HK.out; omega
   ·have hst := cellSum_out (xs := xs) (r := r) (s := s) (show (k : Int) + d < 0 ∨ (ys.length : Int) ≤ (k : Int) + d by omega)
    have HST := Lib.hid hst
    clear hst
    rcases hin with hin | hin
    all_goals
     go_wp2
     go_roundg (gk - 1)
     case rel => exact ⟨k + 1, by have := HK.out; omega, by go_num, by rw [HST.out]; exact hO, hR, hb⟩
     case measure => have := HK.out; omega
  ·have hkl : k = xs.length := by omega
   have r0 := hR.frozen 0
   have r1 := hR.frozen 1
   have r2 := hR.frozen 2
   have r3 := hR.frozen 3
   have r4 := hR.frozen 4
   have q0 : wr.cell? ⟨w.heap.size, 0, none⟩ = some (.int .i64 0) := hR.cell 0
   have q1 : wr.cell? ⟨w.heap.size, 1, none⟩ = some (.int .i64 0) := hR.cell 1
   have q2 : wr.cell? ⟨w.heap.size, 2, none⟩ = some (.int .i64 0) := hR.cell 2
   have q3 : wr.cell? ⟨w.heap.size, 3, none⟩ = some (.int .i64 0) := hR.cell 3
   have q4 : wr.cell? ⟨w.heap.size, 4, none⟩ = some (.int .i64 0) := hR.cell 4
   have o2 : wr.cell? ⟨w.heap.size + 1, 0, none⟩ = some (.int .i64 d) := hO.cell 0
   have o3 : wr.cell? ⟨w.heap.size + 1, 1, none⟩ = some (.int .i64 r) := hO.cell 1
   have o4 : wr.cell? ⟨w.heap.size + 1, 4, none⟩ = some (.int .i64 0) := hO.cell 4
   have p4 := hO.frozen 4
   have hs1' := sq_bd (B := 2304) (a := (cellSum xs ys d r s k).1) (by omega) (by omega)
   have hs2' := sq_bd (B := 2304) (a := (cellSum xs ys d r s k).2) (by omega) (by omega)
   obtain ⟨v, hv⟩ : ∃ v, v = cellSum xs ys d r s k := ⟨_, rfl⟩
   rw [← hv] at o0 o1 hs1' hs2' hbd
   have HV := Lib.hid hv
   have HKL := Lib.hid hkl
   clear hv hkl hO
   go_wp2
   refine bodyPost_ret (v := cellV ⟨d, r, v.1, v.2, v.1 * v.1 + v.2 * v.2⟩) (by simp [results, Tryz.results78, go_sem, q0, q1, q2, q3, q4]) rfl ⟨?_, ?_⟩
   ·rw [HV.out, HKL.out]; rfl
   ·exact (((((hb.setCell (p := ⟨w.heap.size + 1, 4, none⟩) (by simp) _).setCell (p := ⟨w.heap.size, 0, none⟩) (by simp) _).setCell (p := ⟨w.heap.size, 1, none⟩) (by simp) _).setCell (p := ⟨w.heap.size, 2, none⟩) (by simp) _).setCell (p := ⟨w.heap.size, 3, none⟩) (by simp) _).setCell (p := ⟨w.heap.size, 4, none⟩) (by simp) _
set_option maxHeartbeats 4000000 in
theorem found_any (A B : Option Addr) (c e : Nat) (xs ys : List Int) (d r s : Int) (w : World) (hx : RI .i64 w A xs) (hy : RI .i64 w B ys) (he : askErr xs ys s = 0) (hd : -32 ≤ d ∧ d ≤ 32) (hr : 0 ≤ r ∧ r ≤ 3) :
 Calls Tryz.prog 41 #[.slice A xs.length c, .slice B ys.length e, .int .i64 d, .int .i64 r, .int .i64 s] w fun e w' => e = .returned (cellV (cellS xs ys d r s)) ∧ Below w.heap.size w w' := by
 obtain ⟨he1, he2, hs1, hs2⟩ := askErr_zero he
 have hl1 := (streamErr_zero he1).1
 have hl2 := (streamErr_zero he2).1
 have HE1 := Lib.hid he1
 have HE2 := Lib.hid he2
 clear he he1 he2
 obtain ⟨hd1, hd2⟩ := hd
 obtain ⟨hr1, hr2⟩ := hr
 go_enter Tryz.func41, Tryz.ntmps41
 go_wp2
 go_loopg [12, 13] xs.length (fun gk i _ wr => ∃ k : Nat, k + gk = xs.length ∧ i = .int .i64 k ∧ Blk wr (w.heap.size + 1) 52 #[.int .i64 d, .int .i64 r, .int .i64 (cellSum xs ys d r s k).1, .int .i64 (cellSum xs ys d r s k).2, .int .i64 0] ∧ Blk wr w.heap.size 52 #[.int .i64 0, .int .i64 0, .int .i64 0, .int .i64 0, .int .i64 0] ∧ Below w.heap.size w wr)
 case atStart => exact ⟨0, by omega, rfl, Blk.newAt _ _ (by simp), (Blk.new w _ _).alloc _, balloc (balloc (Below.refl _ _) _) _⟩
 case round =>
  obtain ⟨k, hk, rfl, hO, hR, hb⟩ := hrel
  have hk' : k ≤ xs.length := by omega
  have HK := Lib.hid hk
  clear hk
  have hbd := cellSum_bd HE1.out HE2.out d r s k
  have o0 : wr.cell? ⟨w.heap.size + 1, 2, none⟩ = some (.int .i64 (cellSum xs ys d r s k).1) := hO.cell 2
  have o1 : wr.cell? ⟨w.heap.size + 1, 3, none⟩ = some (.int .i64 (cellSum xs ys d r s k).2) := hO.cell 3
  have p0 := hO.frozen 2
  have p1 := hO.frozen 3
  have hg := hO.lt
  have hg2 := hR.lt
  by_cases hlt : k < xs.length
  ·rcases (show (0 ≤ (k : Int) + d ∧ (k : Int) + d < ys.length) ∨ (k : Int) + d < 0 ∨ (0 ≤ (k : Int) + d ∧ (ys.length : Int) ≤ (k : Int) + d) by omega) with hin | hin
   ·obtain ⟨hin1, hin2⟩ := hin
    have hjn : ((k : Int) + d).toNat < ys.length := by omega
    obtain ⟨b1, off1, rfl, hlw1, hw1⟩ := hx.at2 hlt
    obtain ⟨b2, off2, rfl, hlw2, hw2⟩ := hy.at2 hjn
    rw [getD_lt _ _ hlt] at hw1
    rw [getD_lt _ _ hjn] at hw2
    have hc1 := (hb.cell (p := ⟨b1, _, none⟩) hlw1).trans hw1
    have hc2 := (hb.cell (p := ⟨b2, _, none⟩) hlw2).trans hw2
    go_wp2
    have hpr := prodAt_bd HE1.out HE2.out d k
    rw [prodAt, getD_lt _ _ hlt, extS_in hin1 hjn] at hpr
    have f1 : IntKind.i64.wrap (xs[k] * ys[((k : Int) + d).toNat]) = xs[k] * ys[((k : Int) + d).toNat] := IntWalk.i64_in _ (by omega)
    have hq1 : -9223372036854775807 ≤ ((xs[k] * ys[((k : Int) + d).toNat], (0 : Int)) : Int × Int).1 := by simp only []; omega
    have hq2 : ((xs[k] * ys[((k : Int) + d).toNat], (0 : Int)) : Int × Int).1 ≤ 9223372036854775807 := by simp only []; omega
    have hq3 : -9223372036854775807 ≤ ((xs[k] * ys[((k : Int) + d).toNat], (0 : Int)) : Int × Int).2 := by simp only []; omega
    have hq4 : ((xs[k] * ys[((k : Int) + d).toNat], (0 : Int)) : Int × Int).2 ≤ 9223372036854775807 := by simp only []; omega
    have z0 : ¬ s = 0 := by omega
    have z1 : (s == 0) = false := by simp [z0]
    have q1 := quot_bd (k := k) hs1
    have q2 := quart_bd (k := k) hs1 hr1 hr2
    have f2 : IntKind.i64.wrap ((k : Int) / s) = (k : Int) / s := IntWalk.i64_in _ (by omega)
    have f5 : IntKind.i64.wrap ((k : Int) + d) = (k : Int) + d := IntWalk.i64_in _ (by omega)
    have f3 : IntKind.i64.wrap (-r) = -r := IntWalk.i64_in _ (by omega)
    have f4 : IntKind.i64.wrap (-r * ((k : Int) / s)) = -r * ((k : Int) / s) := IntWalk.i64_in _ (by omega)
    go_region_held3 (fun w' => w'.cell? ⟨b1, off1 + k, none⟩ = some (.int .i64 xs[k]) ∧ w'.cell? ⟨b2, off2 + ((k : Int) + d).toNat, none⟩ = some (.int .i64 ys[((k : Int) + d).toNat]))
     (first
       | go_keep
       | exact ⟨(hB3.cell (p := ⟨b1, _, none⟩) hlw1).trans hw1, (hB3.cell (p := ⟨b2, _, none⟩) hlw2).trans hw2⟩
       | exact ⟨((balloc hB3 _).cell (p := ⟨b1, _, none⟩) hlw1).trans hw1, ((balloc hB3 _).cell (p := ⟨b2, _, none⟩) hlw2).trans hw2⟩
       | exact ⟨(((hB3.setCell (p := ⟨wr.heap.size, 0, none⟩) hb.size _).setCell (p := ⟨wr.heap.size, 1, none⟩) hb.size _).cell (p := ⟨b1, _, none⟩) hlw1).trans hw1, (((hB3.setCell (p := ⟨wr.heap.size, 0, none⟩) hb.size _).setCell (p := ⟨wr.heap.size, 1, none⟩) hb.size _).cell (p := ⟨b2, _, none⟩) hlw2).trans hw2⟩)
     ((go_at_call 79; refine (Turned_any (xs[k] * ys[((k : Int) + d).toNat], 0) (-r * ((k : Int) / s)) _ hq1 hq2 hq3 hq4).mono ?_; rintro e w3 ⟨rfl, hb3⟩; have hB3 : Below w.heap.size w w3 := (by first | exact bstep hb.drew hb3 | exact bstep (balloc hb _).drew hb3); (try (have hZ := ((Blk.new wr 50 #[.int .i64 0, .int .i64 0]).drew).keep hb3; have hz1 := hZ.frozen 0; have hz2 := hZ.frozen 1; have hz3 : w3.cell? ⟨wr.heap.size, 0, none⟩ = some (.int .i64 0) := hZ.cell 0; have hz4 : w3.cell? ⟨wr.heap.size, 1, none⟩ = some (.int .i64 0) := hZ.cell 1; have hz5 := hZ.lt))))
    ·have hO3 : Blk w3 (w.heap.size + 1) 52 #[.int .i64 d, .int .i64 r, .int .i64 (cellSum xs ys d r s k).1, .int .i64 (cellSum xs ys d r s k).2, .int .i64 0] := by exact hO.drew.keep hb3
     have hR3 : Blk w3 w.heap.size 52 #[.int .i64 0, .int .i64 0, .int .i64 0, .int .i64 0, .int .i64 0] := by exact hR.drew.keep hb3
     have o0 : w3.cell? ⟨w.heap.size + 1, 2, none⟩ = some (.int .i64 (cellSum xs ys d r s k).1) := hO3.cell 2
     have o1 : w3.cell? ⟨w.heap.size + 1, 3, none⟩ = some (.int .i64 (cellSum xs ys d r s k).2) := hO3.cell 3
     have p0 := hO3.frozen 2
     have p1 := hO3.frozen 3
     have hg3 := hO3.lt
     have hne : ¬ wr.heap.size = w.heap.size + 1 := by omega
     have hne' : ¬ w.heap.size + 1 = wr.heap.size := by omega
     have hpt : turnG (xs[k] * ys[((k : Int) + d).toNat], 0) (-r * ((k : Int) / s)) = partAt xs ys d r s k := by unfold partAt prodAt quartAt; rw [getD_lt _ _ hlt, extS_in hin1 hjn]
     have hpb := partAt_bd HE1.out HE2.out d r s k
     rw [hpt]
     obtain ⟨p, hp⟩ : ∃ p, p = partAt xs ys d r s k := ⟨_, rfl⟩
     rw [← hp] at hpb ⊢
     have HP := Lib.hid hp
     clear hp hpt f1 f2 f3 f4 f5
     have hsz := hb.size
     have hst : Below w.heap.size w w3 := hB3
     go_wp2
     go_roundg (gk - 1)
     case rel =>
      refine ⟨k + 1, by have := HK.out; omega, by go_num, ?_, ?_, ?_⟩
      ·rw [cellSum, ← HP.out]
       exact ((hO3.put 2 _).put 3 _).alloc _
      ·exact ((hR3.far (p := ⟨w.heap.size + 1, 2, none⟩) (by simp) _).far (p := ⟨w.heap.size + 1, 3, none⟩) (by simp) _).alloc _
      ·exact balloc ((hst.setCell (p := ⟨w.heap.size + 1, 2, none⟩) (by simp) _).setCell (p := ⟨w.heap.size + 1, 3, none⟩) (by simp) _) _
     case measure => have := HK.out; omega
    ·have hO3 : Blk w3 (w.heap.size + 1) 52 #[.int .i64 d, .int .i64 r, .int .i64 (cellSum xs ys d r s k).1, .int .i64 (cellSum xs ys d r s k).2, .int .i64 0] := by exact (hO.alloc _).drew.keep hb3
     have hR3 : Blk w3 w.heap.size 52 #[.int .i64 0, .int .i64 0, .int .i64 0, .int .i64 0, .int .i64 0] := by exact (hR.alloc _).drew.keep hb3
     have o0 : w3.cell? ⟨w.heap.size + 1, 2, none⟩ = some (.int .i64 (cellSum xs ys d r s k).1) := hO3.cell 2
     have o1 : w3.cell? ⟨w.heap.size + 1, 3, none⟩ = some (.int .i64 (cellSum xs ys d r s k).2) := hO3.cell 3
     have p0 := hO3.frozen 2
     have p1 := hO3.frozen 3
     have hg3 := hO3.lt
     have hne : ¬ wr.heap.size = w.heap.size + 1 := by omega
     have hne' : ¬ w.heap.size + 1 = wr.heap.size := by omega
     have hpt : turnG (xs[k] * ys[((k : Int) + d).toNat], 0) (-r * ((k : Int) / s)) = partAt xs ys d r s k := by unfold partAt prodAt quartAt; rw [getD_lt _ _ hlt, extS_in hin1 hjn]
     have hpb := partAt_bd HE1.out HE2.out d r s k
     rw [hpt]
     obtain ⟨p, hp⟩ : ∃ p, p = partAt xs ys d r s k := ⟨_, rfl⟩
     rw [← hp] at hpb ⊢
     have HP := Lib.hid hp
     clear hp hpt f1 f2 f3 f4 f5
     have hsz := hb.size
     have hst : Below w.heap.size w w3 := hB3
     go_wp2
     go_roundg (gk - 1)
     case rel =>
      refine ⟨k + 1, by have := HK.out; omega, by go_num, ?_, ?_, ?_⟩
      ·rw [cellSum, ← HP.out]
       exact (((hO3.far (p := ⟨wr.heap.size, 0, none⟩) hne' _).far (p := ⟨wr.heap.size, 1, none⟩) hne' _).put 2 _).put 3 _
      ·exact (((hR3.far (p := ⟨wr.heap.size, 0, none⟩) (by simp; omega) _).far (p := ⟨wr.heap.size, 1, none⟩) (by simp; omega) _).far (p := ⟨w.heap.size + 1, 2, none⟩) (by simp) _).far (p := ⟨w.heap.size + 1, 3, none⟩) (by simp) _
      ·exact (((hst.setCell (p := ⟨wr.heap.size, 0, none⟩) hsz _).setCell (p := ⟨wr.heap.size, 1, none⟩) hsz _).setCell (p := ⟨w.heap.size + 1, 2, none⟩) (by simp) _).setCell (p := ⟨w.heap.size + 1, 3, none⟩) (by simp) _
     case measure => have := HK.out; omega
   ·have hst := cellSum_out (xs := xs) (r := r) (s := s) (show (k : Int) + d < 0 ∨ (ys.length : Int) ≤ (k : Int) + d by omega)
    have HST := Lib.hid hst
    clear hst
    rcases hin with hin | hin
    all_goals
     go_wp2
     go_roundg (gk - 1)
     case rel => exact ⟨k + 1, by have := HK.out; omega, by go_num, by rw [HST.out]; exact hO, hR, hb⟩
     case measure => have := HK.out; omega
  ·have hkl : k = xs.length := by omega
   have r0 := hR.frozen 0
   have r1 := hR.frozen 1
   have r2 := hR.frozen 2
   have r3 := hR.frozen 3
   have r4 := hR.frozen 4
   have q0 : wr.cell? ⟨w.heap.size, 0, none⟩ = some (.int .i64 0) := hR.cell 0
   have q1 : wr.cell? ⟨w.heap.size, 1, none⟩ = some (.int .i64 0) := hR.cell 1
   have q2 : wr.cell? ⟨w.heap.size, 2, none⟩ = some (.int .i64 0) := hR.cell 2
   have q3 : wr.cell? ⟨w.heap.size, 3, none⟩ = some (.int .i64 0) := hR.cell 3
   have q4 : wr.cell? ⟨w.heap.size, 4, none⟩ = some (.int .i64 0) := hR.cell 4
   have o2 : wr.cell? ⟨w.heap.size + 1, 0, none⟩ = some (.int .i64 d) := hO.cell 0
   have o3 : wr.cell? ⟨w.heap.size + 1, 1, none⟩ = some (.int .i64 r) := hO.cell 1
   have o4 : wr.cell? ⟨w.heap.size + 1, 4, none⟩ = some (.int .i64 0) := hO.cell 4
   have p4 := hO.frozen 4
   have hs1' := sq_bd (B := 2304) (a := (cellSum xs ys d r s k).1) (by omega) (by omega)
   have hs2' := sq_bd (B := 2304) (a := (cellSum xs ys d r s k).2) (by omega) (by omega)
   obtain ⟨v, hv⟩ : ∃ v, v = cellSum xs ys d r s k := ⟨_, rfl⟩
   rw [← hv] at o0 o1 hs1' hs2' hbd
   have HV := Lib.hid hv
   have HKL := Lib.hid hkl
   clear hv hkl hO
   go_wp2
   refine bodyPost_ret (v := cellV ⟨d, r, v.1, v.2, v.1 * v.1 + v.2 * v.2⟩) (by simp [results, Tryz.results41, go_sem, q0, q1, q2, q3, q4]) rfl ⟨?_, ?_⟩
   ·rw [HV.out, HKL.out]; rfl
   ·exact (((((hb.setCell (p := ⟨w.heap.size + 1, 4, none⟩) (by simp) _).setCell (p := ⟨w.heap.size, 0, none⟩) (by simp) _).setCell (p := ⟨w.heap.size, 1, none⟩) (by simp) _).setCell (p := ⟨w.heap.size, 2, none⟩) (by simp) _).setCell (p := ⟨w.heap.size, 3, none⟩) (by simp) _).setCell (p := ⟨w.heap.size, 4, none⟩) (by simp) _
end Srch
end Go.Proofs.YtelkokcnedbmeaaGreat
