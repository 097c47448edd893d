/-
  Parts of the proof of TopCorrelate: TaN.
-/
import Derived.Test.YtelkokcnedbmeaaGreatT17
namespace Go.Proofs.YtelkokcnedbmeaaGreat
open Go.RowKit
set_option maxRecDepth 20000
set_option linter.unusedVariables false
namespace Aln
def firstB (m : List (Int × List Int)) : Int × List Int := m.getD 0 (0, [])
def lastB (m : List (Int × List Int)) : Int × List Int := m.getD (m.length - 1) (0, [])
def jFrom (m : List (Int × List Int)) (p : Int × List Int) : Int := if 0 < m.length ∧ (firstB m).1 < p.1 then (firstB m).1 else p.1
def jTo (m : List (Int × List Int)) (p : Int × List Int) : Int := if 0 < m.length ∧ endB p < endB (lastB m) then endB (lastB m) else endB p
def jAt (m : List (Int × List Int)) (p : Int × List Int) (K : Int) (a : Int) (i : Nat) : Int := if p.1 ≤ a + i ∧ a + i < K ∧ sB p (a + i) ≠ 0 then sB p (a + i) else sampAt m (a + i)
def jS (m : List (Int × List Int)) (p : Int × List Int) : List Int := fullL (jAt m p (endB p) (jFrom m p)) (jTo m p - jFrom m p).toNat
theorem jAt_start {m : List (Int × List Int)} {p : Int × List Int} {a : Int} {n : Nat} : fullL (jAt m p p.1 a) n = fullL (winF m a) n := fullL_congr (fun i _ => by unfold jAt winF; rw [if_neg (by omega)])
theorem jAt_skip {m : List (Int × List Int)} {p : Int × List Int} {a K : Int} {n : Nat} (h : sB p K = 0) : fullL (jAt m p K a) n = fullL (jAt m p (K + 1) a) n := fullL_congr (fun i _ => by
 unfold jAt
 by_cases h1 : p.1 ≤ a + i ∧ a + i < K ∧ sB p (a + i) ≠ 0
 ·rw [if_pos h1, if_pos (by omega)]
 ·rw [if_neg h1]
  by_cases h2 : a + (i : Int) = K
  ·rw [if_neg (by rw [h2]; omega)]
  ·rw [if_neg (by omega)])
theorem jAt_set {m : List (Int × List Int)} {p : Int × List Int} {a K : Int} {n j : Nat} (h : ¬ sB p K = 0) (hj : a + j = K) (hp : p.1 ≤ K) : (fullL (jAt m p K a) n).set j (sB p K) = fullL (jAt m p (K + 1) a) n := by
 apply List.ext_getElem (by simp [fullL])
 intro i h1 h2
 rw [List.getElem_set, fullL_get, fullL_get]
 unfold jAt
 by_cases e : j = i
 ·subst e
  rw [if_pos rfl, hj, if_pos (by omega)]
 ·rw [if_neg e]
  by_cases h3 : p.1 ≤ a + i ∧ a + i < K ∧ sB p (a + i) ≠ 0
  ·rw [if_pos h3, if_pos (by omega)]
  ·rw [if_neg h3, if_neg (by omega)]
def JoinPost (m : List (Int × List Int)) (p : Int × List Int) (w : World) (e : Ending) (w' : World) : Prop :=
 (256 < jTo m p - jFrom m p ∧ e = .returned (.tuple #[.agg #[.int .i64 0, .slice none 0 0], .bool false]) ∧ Below w.heap.size w w') ∨
 (jTo m p - jFrom m p ≤ 256 ∧ ∃ g, e = .returned (.tuple #[.agg #[.int .i64 (jFrom m p), .slice (some ⟨g, 0, none⟩) (jS m p).length (jS m p).length], .bool true]) ∧ w.heap.size ≤ g ∧ Blk w' g 3 ((jS m p).flatMap (encI .i64)).toArray ∧ Below w.heap.size w w')
theorem JoinPost.no {m : List (Int × List Int)} {p : Int × List Int} {w w' : World} (h : 256 < jTo m p - jFrom m p) (hb : Below w.heap.size w w') : JoinPost m p w (.returned (.tuple #[.agg #[.int .i64 0, .slice none 0 0], .bool false])) w' := .inl ⟨h, rfl, hb⟩
theorem JoinPost.yes {m : List (Int × List Int)} {p : Int × List Int} {w w' : World} {F : Int} {n g : Nat} (h : jTo m p - jFrom m p ≤ 256) (hF : jFrom m p = F) (hn : (jS m p).length = n) (hg : w.heap.size ≤ g) (hB : Blk w' g 3 ((jS m p).flatMap (encI .i64)).toArray) (hb : Below w.heap.size w w') : JoinPost m p w (.returned (.tuple #[.agg #[.int .i64 F, .slice (some ⟨g, 0, none⟩) n n], .bool true])) w' := by
 subst hF; subst hn
 exact .inr ⟨h, g, rfl, hg, hB, hb⟩
set_option maxHeartbeats 4000000 in
theorem join_any (A : Option Addr) (c : Nat) (m : List (Int × List Int)) (p : Int × List Int) (B : Option Addr) (d : Nat) (w : World) (hx : RB w A m) (hy : RI .i64 w B p.2) (hA : Apart m) (hl : m.length ≤ 64) (hp : okB p = true) :
 Calls Tryz.prog 71 #[.slice A m.length c, .agg #[.int .i64 p.1, .slice B p.2.length d]] w (JoinPost m p w) := by
 obtain ⟨p1, p2, p3, p4, _⟩ := okB_bd hp
 have HA := Lib.hid hA
 clear hA hp
 have hb0 : Below w.heap.size w ((w.alloc (.cells #[.int .i64 p.1, .slice B p.2.length d] 125)).alloc (.cells #[.int .i64 0, .slice none 0 0] 83)) := balloc (balloc (Below.refl _ _) _) _
 have hP0 := (Blk.new w 125 #[.int .i64 p.1, .slice B p.2.length d]).alloc (.cells #[.int .i64 0, .slice none 0 0] 83)
 have hR0 := Blk.newAt (w := w.alloc (.cells #[.int .i64 p.1, .slice B p.2.length d] 125)) (g := w.heap.size + 1) 83 #[.int .i64 0, .slice none 0 0] (by simp)
 obtain ⟨W0, hW0⟩ : ∃ W0, W0 = ((w.alloc (.cells #[.int .i64 p.1, .slice B p.2.length d] 125)).alloc (.cells #[.int .i64 0, .slice none 0 0] 83)) := ⟨_, rfl⟩
 have hI0 : Below W0.heap.size W0 ((w.alloc (.cells #[.int .i64 p.1, .slice B p.2.length d] 125)).alloc (.cells #[.int .i64 0, .slice none 0 0] 83)) := by rw [hW0]; exact Below.refl _ _
 rw [← hW0] at hb0 hP0 hR0
 have hl2 : w.heap.size + 2 ≤ W0.heap.size := by rw [hW0]; simp
 clear hW0
 have q1 : -1000000000 ≤ p.1 := by omega
 have q2 : p.1 ≤ 1000000000 := by omega
 have q3 : p.2.length ≤ 1000000000 := by omega
 by_cases hm : 0 < m.length
 ·have d0 : decide (0 < m.length) = true := decide_eq_true hm
  obtain ⟨u1, u2, u3, u4, _⟩ := HA.out.bd 0 hm
  have hlast : m.length - 1 < m.length := by omega
  obtain ⟨v1, v2, v3, v4, _⟩ := HA.out.bd (m.length - 1) hlast
  have hfl : (m[0]'hm).1 ≤ (m[m.length - 1]'hlast).1 := by
   rcases Nat.eq_zero_or_pos (m.length - 1) with h | h
   ·simp [h]
   ·have := HA.out.lt h hlast
    unfold endB at this
    omega
  have ef : firstB m = m[0]'hm := getD_lt _ _ hm
  have el : lastB m = m[m.length - 1]'hlast := getD_lt _ _ hlast
  obtain ⟨b1, off1, A1, c1, eA, hlw, hw1, hw2, hr, hcap⟩ := hx.at_ hm
  obtain ⟨b1', off1', A2, c2, eA2, hlw', hz1, hz2, hr2, hcap2⟩ := hx.at_ hlast
  obtain ⟨rfl, rfl⟩ : b1 = b1' ∧ off1 = off1' := by rw [eA] at eA2; injection eA2 with eA2; injection eA2 with e1 e2; exact ⟨e1, e2⟩
  clear eA2
  subst eA
  rw [Nat.zero_mul, Nat.add_zero] at hw1 hw2
  have f1 : IntKind.i64.wrap ((m.length : Int) - 1) = (m.length : Int) - 1 := IntWalk.i64_in _ (by omega)
  have f2 : ((m.length : Int) - 1).toNat = m.length - 1 := by omega
  have f5 : 1 ≤ (m.length : Int) := by omega
  have f6 : 1 ≤ m.length := by omega
  have f7 : (m.length : Int) - 1 < m.length := by omega
  rcases (show ¬ (m[0]'hm).1 < p.1 ∨ (m[0]'hm).1 < p.1 by omega) with hF | hF <;> rcases (show p.1 + (p.2.length : Int) < (m[m.length - 1]'hlast).1 + ((m[m.length - 1]'hlast).2.length : Int) ∨ ¬ p.1 + (p.2.length : Int) < (m[m.length - 1]'hlast).1 + ((m[m.length - 1]'hlast).2.length : Int) by omega) with hT | hT
  ·have HF : Hid (jFrom m p = p.1) := Lib.hid (by unfold jFrom; rw [ef]; split <;> omega)
   have HT : Hid (jTo m p = ((m[m.length - 1]'hlast).1 + ((m[m.length - 1]'hlast).2.length : Int))) := Lib.hid (by unfold jTo; rw [el]; unfold endB; split <;> omega)
   clear ef el
   go_enter Tryz.func71, Tryz.ntmps71
   go_wp2
   go_region_held3 (fun w' => w'.cell? ⟨w.heap.size, 0, none⟩ = some (.int .i64 p.1) ∧ w'.cell? ⟨w.heap.size, 1, none⟩ = some (.slice B p.2.length d))
    (first | go_keep | exact ⟨(hP0.keep hB3).cell 0, (hP0.keep hB3).cell 1⟩)
    ((go_at_call 70; refine (end_any _ _ _ _ _ q1 q2 q3).mono ?_; rintro e w3 ⟨rfl, hb3⟩; have hB3 : Below W0.heap.size W0 w3 := (by exact bstep hI0.drew hb3)))
   have hc1 := ((bstep hb0 hB3).cell (p := ⟨b1, _, none⟩) hlw).trans hw1
   have hc2 := ((bstep hb0 hB3).cell (p := ⟨b1, _, none⟩) hlw).trans hz1
   have hc3 := ((bstep hb0 hB3).cell (p := ⟨b1, _, none⟩) hlw).trans hz2
   go_wp2_with fail
   refine (end_any (m[m.length - 1]'hlast).1 A2 (m[m.length - 1]'hlast).2.length c2 _ (by omega) (by omega) (by omega)).mono ?_
   rintro _ w4 ⟨rfl, hb4⟩
   have hB4 : Below W0.heap.size W0 w4 := bstep hB3 hb4
   clear hc1 hc2 hc3 hb3 hb4 hB3
   obtain ⟨w3, rfl⟩ : ∃ w3, w3 = w4 := ⟨_, rfl⟩
   have hB3 := hB4
   clear hB4
   have hB3w := bstep hb0 hB3
   have hP3 := hP0.keep hB3
   have hR3 := hR0.keep hB3
   by_cases hbig : 256 < ((m[m.length - 1]'hlast).1 + ((m[m.length - 1]'hlast).2.length : Int)) - p.1
   ·first
    |(exfalso; omega)
    |(have z0 : World.cell? w3 ⟨w.heap.size + 1, 0, none⟩ = some (.int .i64 0) := hR3.cell 0
      have z1 : World.cell? w3 ⟨w.heap.size + 1, 1, none⟩ = some (.slice none 0 0) := hR3.cell 1
      have zf0 := hR3.frozen 0
      have zf1 := hR3.frozen 1
      have zfl := hR3.lt
      go_wp2
      refine bodyPost_ret (v := .tuple #[.agg #[.int .i64 0, .slice none 0 0], .bool false]) (by simp [results, Tryz.results71, go_sem, z0, z1]) rfl (JoinPost.no (by rw [HF.out, HT.out]; exact hbig) ?_)
      exact (hB3w.setCell (p := ⟨w.heap.size + 1, 0, none⟩) (by simp) _).setCell (p := ⟨w.heap.size + 1, 1, none⟩) (by simp) _)
   ·obtain ⟨n, hn⟩ := Int.eq_ofNat_of_zero_le (show 0 ≤ ((m[m.length - 1]'hlast).1 + ((m[m.length - 1]'hlast).2.length : Int)) - p.1 by omega)
    have hw5 := window_any _ c m (p.1) n w3 (hx.keep hB3w) HA.out (by omega) (by omega) (by omega) (by omega)
    rw [← hn] at hw5
    have hn' : n ≤ 256 := by omega
    have hjl : (jS m p).length = n := by unfold jS; rw [fullL_len, HF.out, HT.out, hn]; rfl
    have hnT : (n : Int) = ((m[m.length - 1]'hlast).1 + ((m[m.length - 1]'hlast).2.length : Int)) - p.1 := hn.symm
    have HJL := Lib.hid hjl
    have hnT1 : (n : Int) ≤ ((m[m.length - 1]'hlast).1 + ((m[m.length - 1]'hlast).2.length : Int)) - p.1 := by omega
    have hnT2 : ((m[m.length - 1]'hlast).1 + ((m[m.length - 1]'hlast).2.length : Int)) - p.1 ≤ n := by omega
    have HN := Lib.hid hn
    have hdT : decide (256 < ((m[m.length - 1]'hlast).1 + ((m[m.length - 1]'hlast).2.length : Int)) - p.1) = false := decide_eq_false hbig
    clear hn hjl hnT
    go_wp2_with fail
    refine (hw5).mono ?_
    rintro _ w5 ⟨g, rfl, hg, hW, hb5⟩
    have hB5 : Below W0.heap.size W0 w5 := bstep hB3 hb5
    have hsz := hB3.size
    have hsz0 := hb0.size
    clear hb5 hw5 hP3 hR3
    have hP5 := hP0.keep hB5
    have a0 : World.cell? w5 ⟨w.heap.size, 0, none⟩ = some (.int .i64 p.1) := hP5.cell 0
    have af0 := hP5.frozen 0
    have a1 : World.cell? w5 ⟨w.heap.size, 1, none⟩ = some (.slice B p.2.length d) := hP5.cell 1
    have af1 := hP5.frozen 1
    have afl := hP5.lt
    have hgne : ¬ g = w.heap.size := by omega
    have hgne2 : ¬ w.heap.size = g := by omega
    have hgne3 : ¬ g = w.heap.size + 1 := by omega
    have hgne4 : ¬ w.heap.size + 1 = g := by omega
    go_wp2
    go_loopg [9, 10, 47] p.2.length (fun gk _ _ i wr => ∃ k : Nat, k + gk = p.2.length ∧ i = .int .i64 k ∧ Blk wr g 3 ((fullL (jAt m p (p.1 + k) (p.1)) n).flatMap (encI .i64)).toArray ∧ Below W0.heap.size W0 wr)
    case atStart => exact ⟨0, by omega, rfl, by rw [show p.1 + ((0 : Nat) : Int) = p.1 by omega, jAt_start]; exact hW, hB5⟩
    case round =>
     obtain ⟨k, hk, rfl, hO, hb⟩ := hrel
     have hk' : k ≤ p.2.length := by omega
     have HK := Lib.hid hk
     clear hk a0 a1 af0 af1 afl
     have hP6 := hP0.keep hb
     have a0 : World.cell? wr ⟨w.heap.size, 0, none⟩ = some (.int .i64 p.1) := hP6.cell 0
     have af0 := hP6.frozen 0
     have a1 : World.cell? wr ⟨w.heap.size, 1, none⟩ = some (.slice B p.2.length d) := hP6.cell 1
     have af1 := hP6.frozen 1
     have afl := hP6.lt
     by_cases hlt : k < p.2.length
     ·obtain ⟨e2, off2, rfl, hlw2, hw2⟩ := hy.at2 hlt
      have hc2 := ((bstep hb0 hb).cell (p := ⟨e2, _, none⟩) hlw2).trans hw2
      have es : p.2.getD k 0 = sB p (p.1 + k) := by unfold sB; congr 1; omega
      rw [es] at hc2
      have hjm : k < n := by omega
      have o0 := blkI_at hO (j := k) (by rw [fullL_len]; exact hjm)
      have of0 := hO.frozen k
      have ol := hO.lt
      by_cases hz : sB p (p.1 + k) = 0
      ·have ez : (sB p (p.1 + k) != 0) = false := by simp [hz]
       have HS := Lib.hid (jAt_skip (m := m) (a := p.1) (n := n) hz)
       clear hz es
       generalize sB p (p.1 + k) = X at *
       go_wp2
       go_roundg (gk - 1)
       case rel => exact ⟨k + 1, by have := HK.out; omega, by go_num, by rw [show p.1 + ((k + 1 : Nat) : Int) = p.1 + k + 1 by omega, ← HS.out]; exact hO, hb⟩
       case measure => have := HK.out; omega
      ·have ez : (sB p (p.1 + k) != 0) = true := by simp [hz]
       have HS := Lib.hid (jAt_set (m := m) (a := p.1) (n := n) (j := k) hz (by omega) (by omega))
       clear hz es
       generalize hXX : sB p (p.1 + k) = X at *
       clear hXX
       go_wp2
       go_roundg (gk - 1)
       case rel => exact ⟨k + 1, by have := HK.out; omega, by go_num, by rw [show p.1 + ((k + 1 : Nat) : Int) = p.1 + k + 1 by omega, ← HS.out]; exact blkI_set hO (by rw [fullL_len]; exact hjm) _, hb.setCell (p := ⟨g, _, none⟩) (by simp only []; omega) _⟩
       case measure => have := HK.out; omega
     ·have hkl : p.1 + (k : Int) = endB p := by unfold endB; omega
      have hR6 := hR0.keep hb
      have z0 : World.cell? wr ⟨w.heap.size + 1, 0, none⟩ = some (.int .i64 0) := hR6.cell 0
      have zf0 := hR6.frozen 0
      have z1 : World.cell? wr ⟨w.heap.size + 1, 1, none⟩ = some (.slice none 0 0) := hR6.cell 1
      have zf1 := hR6.frozen 1
      have zfl := hR6.lt
      have hO2 : Blk wr g 3 ((jS m p).flatMap (encI .i64)).toArray := by
       unfold jS
       rw [HF.out, HT.out, HN.out, ← hkl]
       exact hO
      clear hkl
      go_wp2
      refine bodyPost_ret (v := .tuple #[.agg #[.int .i64 (p.1), .slice (some ⟨g, 0, none⟩) n n], .bool true]) (by simp [results, Tryz.results71, go_sem, z0, z1]) rfl (JoinPost.yes (by rw [HF.out, HT.out]; omega) HF.out HJL.out (by omega) ?_ ?_)
      ·exact (hO2.far (p := ⟨w.heap.size + 1, 0, none⟩) hgne3 _).far (p := ⟨w.heap.size + 1, 1, none⟩) hgne3 _
      ·exact ((bstep hb0 hb).setCell (p := ⟨w.heap.size + 1, 0, none⟩) (by simp) _).setCell (p := ⟨w.heap.size + 1, 1, none⟩) (by simp) _
  ·have HF : Hid (jFrom m p = p.1) := Lib.hid (by unfold jFrom; rw [ef]; split <;> omega)
   have HT : Hid (jTo m p = (p.1 + (p.2.length : Int))) := Lib.hid (by unfold jTo; rw [el]; unfold endB; split <;> omega)
   clear ef el
   go_enter Tryz.func71, Tryz.ntmps71
   go_wp2
   go_region_held3 (fun w' => w'.cell? ⟨w.heap.size, 0, none⟩ = some (.int .i64 p.1) ∧ w'.cell? ⟨w.heap.size, 1, none⟩ = some (.slice B p.2.length d))
    (first | go_keep | exact ⟨(hP0.keep hB3).cell 0, (hP0.keep hB3).cell 1⟩)
    ((go_at_call 70; refine (end_any _ _ _ _ _ q1 q2 q3).mono ?_; rintro e w3 ⟨rfl, hb3⟩; have hB3 : Below W0.heap.size W0 w3 := (by exact bstep hI0.drew hb3)))
   have hc1 := ((bstep hb0 hB3).cell (p := ⟨b1, _, none⟩) hlw).trans hw1
   have hc2 := ((bstep hb0 hB3).cell (p := ⟨b1, _, none⟩) hlw).trans hz1
   have hc3 := ((bstep hb0 hB3).cell (p := ⟨b1, _, none⟩) hlw).trans hz2
   go_wp2_with fail
   refine (end_any (m[m.length - 1]'hlast).1 A2 (m[m.length - 1]'hlast).2.length c2 _ (by omega) (by omega) (by omega)).mono ?_
   rintro _ w4 ⟨rfl, hb4⟩
   have hB4 : Below W0.heap.size W0 w4 := bstep hB3 hb4
   clear hc1 hc2 hc3 hb3 hb4 hB3
   obtain ⟨w3, rfl⟩ : ∃ w3, w3 = w4 := ⟨_, rfl⟩
   have hB3 := hB4
   clear hB4
   have hB3w := bstep hb0 hB3
   have hP3 := hP0.keep hB3
   have hR3 := hR0.keep hB3
   by_cases hbig : 256 < (p.1 + (p.2.length : Int)) - p.1
   ·first
    |(exfalso; omega)
    |(have z0 : World.cell? w3 ⟨w.heap.size + 1, 0, none⟩ = some (.int .i64 0) := hR3.cell 0
      have z1 : World.cell? w3 ⟨w.heap.size + 1, 1, none⟩ = some (.slice none 0 0) := hR3.cell 1
      have zf0 := hR3.frozen 0
      have zf1 := hR3.frozen 1
      have zfl := hR3.lt
      go_wp2
      refine bodyPost_ret (v := .tuple #[.agg #[.int .i64 0, .slice none 0 0], .bool false]) (by simp [results, Tryz.results71, go_sem, z0, z1]) rfl (JoinPost.no (by rw [HF.out, HT.out]; exact hbig) ?_)
      exact (hB3w.setCell (p := ⟨w.heap.size + 1, 0, none⟩) (by simp) _).setCell (p := ⟨w.heap.size + 1, 1, none⟩) (by simp) _)
   ·obtain ⟨n, hn⟩ := Int.eq_ofNat_of_zero_le (show 0 ≤ (p.1 + (p.2.length : Int)) - p.1 by omega)
    have hw5 := window_any _ c m (p.1) n w3 (hx.keep hB3w) HA.out (by omega) (by omega) (by omega) (by omega)
    rw [← hn] at hw5
    have hn' : n ≤ 256 := by omega
    have hjl : (jS m p).length = n := by unfold jS; rw [fullL_len, HF.out, HT.out, hn]; rfl
    have hnT : (n : Int) = (p.1 + (p.2.length : Int)) - p.1 := hn.symm
    have HJL := Lib.hid hjl
    have hnT1 : (n : Int) ≤ (p.1 + (p.2.length : Int)) - p.1 := by omega
    have hnT2 : (p.1 + (p.2.length : Int)) - p.1 ≤ n := by omega
    have HN := Lib.hid hn
    have hdT : decide (256 < (p.1 + (p.2.length : Int)) - p.1) = false := decide_eq_false hbig
    clear hn hjl hnT
    go_wp2_with fail
    refine (hw5).mono ?_
    rintro _ w5 ⟨g, rfl, hg, hW, hb5⟩
    have hB5 : Below W0.heap.size W0 w5 := bstep hB3 hb5
    have hsz := hB3.size
    have hsz0 := hb0.size
    clear hb5 hw5 hP3 hR3
    have hP5 := hP0.keep hB5
    have a0 : World.cell? w5 ⟨w.heap.size, 0, none⟩ = some (.int .i64 p.1) := hP5.cell 0
    have af0 := hP5.frozen 0
    have a1 : World.cell? w5 ⟨w.heap.size, 1, none⟩ = some (.slice B p.2.length d) := hP5.cell 1
    have af1 := hP5.frozen 1
    have afl := hP5.lt
    have hgne : ¬ g = w.heap.size := by omega
    have hgne2 : ¬ w.heap.size = g := by omega
    have hgne3 : ¬ g = w.heap.size + 1 := by omega
    have hgne4 : ¬ w.heap.size + 1 = g := by omega
    go_wp2
    go_loopg [9, 10, 47] p.2.length (fun gk _ _ i wr => ∃ k : Nat, k + gk = p.2.length ∧ i = .int .i64 k ∧ Blk wr g 3 ((fullL (jAt m p (p.1 + k) (p.1)) n).flatMap (encI .i64)).toArray ∧ Below W0.heap.size W0 wr)
    case atStart => exact ⟨0, by omega, rfl, by rw [show p.1 + ((0 : Nat) : Int) = p.1 by omega, jAt_start]; exact hW, hB5⟩
    case round =>
     obtain ⟨k, hk, rfl, hO, hb⟩ := hrel
     have hk' : k ≤ p.2.length := by omega
     have HK := Lib.hid hk
     clear hk a0 a1 af0 af1 afl
     have hP6 := hP0.keep hb
     have a0 : World.cell? wr ⟨w.heap.size, 0, none⟩ = some (.int .i64 p.1) := hP6.cell 0
     have af0 := hP6.frozen 0
     have a1 : World.cell? wr ⟨w.heap.size, 1, none⟩ = some (.slice B p.2.length d) := hP6.cell 1
     have af1 := hP6.frozen 1
     have afl := hP6.lt
     by_cases hlt : k < p.2.length
     ·obtain ⟨e2, off2, rfl, hlw2, hw2⟩ := hy.at2 hlt
      have hc2 := ((bstep hb0 hb).cell (p := ⟨e2, _, none⟩) hlw2).trans hw2
      have es : p.2.getD k 0 = sB p (p.1 + k) := by unfold sB; congr 1; omega
      rw [es] at hc2
      have hjm : k < n := by omega
      have o0 := blkI_at hO (j := k) (by rw [fullL_len]; exact hjm)
      have of0 := hO.frozen k
      have ol := hO.lt
      by_cases hz : sB p (p.1 + k) = 0
      ·have ez : (sB p (p.1 + k) != 0) = false := by simp [hz]
       have HS := Lib.hid (jAt_skip (m := m) (a := p.1) (n := n) hz)
       clear hz es
       generalize sB p (p.1 + k) = X at *
       go_wp2
       go_roundg (gk - 1)
       case rel => exact ⟨k + 1, by have := HK.out; omega, by go_num, by rw [show p.1 + ((k + 1 : Nat) : Int) = p.1 + k + 1 by omega, ← HS.out]; exact hO, hb⟩
       case measure => have := HK.out; omega
      ·have ez : (sB p (p.1 + k) != 0) = true := by simp [hz]
       have HS := Lib.hid (jAt_set (m := m) (a := p.1) (n := n) (j := k) hz (by omega) (by omega))
       clear hz es
       generalize hXX : sB p (p.1 + k) = X at *
       clear hXX
       go_wp2
       go_roundg (gk - 1)
       case rel => exact ⟨k + 1, by have := HK.out; omega, by go_num, by rw [show p.1 + ((k + 1 : Nat) : Int) = p.1 + k + 1 by omega, ← HS.out]; exact blkI_set hO (by rw [fullL_len]; exact hjm) _, hb.setCell (p := ⟨g, _, none⟩) (by simp only []; omega) _⟩
       case measure => have := HK.out; omega
     ·have hkl : p.1 + (k : Int) = endB p := by unfold endB; omega
      have hR6 := hR0.keep hb
      have z0 : World.cell? wr ⟨w.heap.size + 1, 0, none⟩ = some (.int .i64 0) := hR6.cell 0
      have zf0 := hR6.frozen 0
      have z1 : World.cell? wr ⟨w.heap.size + 1, 1, none⟩ = some (.slice none 0 0) := hR6.cell 1
      have zf1 := hR6.frozen 1
      have zfl := hR6.lt
      have hO2 : Blk wr g 3 ((jS m p).flatMap (encI .i64)).toArray := by
       unfold jS
       rw [HF.out, HT.out, HN.out, ← hkl]
       exact hO
      clear hkl
      go_wp2
      refine bodyPost_ret (v := .tuple #[.agg #[.int .i64 (p.1), .slice (some ⟨g, 0, none⟩) n n], .bool true]) (by simp [results, Tryz.results71, go_sem, z0, z1]) rfl (JoinPost.yes (by rw [HF.out, HT.out]; omega) HF.out HJL.out (by omega) ?_ ?_)
      ·exact (hO2.far (p := ⟨w.heap.size + 1, 0, none⟩) hgne3 _).far (p := ⟨w.heap.size + 1, 1, none⟩) hgne3 _
      ·exact ((bstep hb0 hb).setCell (p := ⟨w.heap.size + 1, 0, none⟩) (by simp) _).setCell (p := ⟨w.heap.size + 1, 1, none⟩) (by simp) _
  ·have HF : Hid (jFrom m p = (m[0]'hm).1) := Lib.hid (by unfold jFrom; rw [ef]; split <;> omega)
   have HT : Hid (jTo m p = ((m[m.length - 1]'hlast).1 + ((m[m.length - 1]'hlast).2.length : Int))) := Lib.hid (by unfold jTo; rw [el]; unfold endB; split <;> omega)
   clear ef el
   go_enter Tryz.func71, Tryz.ntmps71
   go_wp2
   go_region_held3 (fun w' => w'.cell? ⟨w.heap.size, 0, none⟩ = some (.int .i64 p.1) ∧ w'.cell? ⟨w.heap.size, 1, none⟩ = some (.slice B p.2.length d))
    (first | go_keep | exact ⟨(hP0.keep hB3).cell 0, (hP0.keep hB3).cell 1⟩)
    ((go_at_call 70; refine (end_any _ _ _ _ _ q1 q2 q3).mono ?_; rintro e w3 ⟨rfl, hb3⟩; have hB3 : Below W0.heap.size W0 w3 := (by exact bstep hI0.drew hb3)))
   have hc1 := ((bstep hb0 hB3).cell (p := ⟨b1, _, none⟩) hlw).trans hw1
   have hc2 := ((bstep hb0 hB3).cell (p := ⟨b1, _, none⟩) hlw).trans hz1
   have hc3 := ((bstep hb0 hB3).cell (p := ⟨b1, _, none⟩) hlw).trans hz2
   go_wp2_with fail
   refine (end_any (m[m.length - 1]'hlast).1 A2 (m[m.length - 1]'hlast).2.length c2 _ (by omega) (by omega) (by omega)).mono ?_
   rintro _ w4 ⟨rfl, hb4⟩
   have hB4 : Below W0.heap.size W0 w4 := bstep hB3 hb4
   clear hc1 hc2 hc3 hb3 hb4 hB3
   obtain ⟨w3, rfl⟩ : ∃ w3, w3 = w4 := ⟨_, rfl⟩
   have hB3 := hB4
   clear hB4
   have hB3w := bstep hb0 hB3
   have hP3 := hP0.keep hB3
   have hR3 := hR0.keep hB3
   by_cases hbig : 256 < ((m[m.length - 1]'hlast).1 + ((m[m.length - 1]'hlast).2.length : Int)) - (m[0]'hm).1
   ·first
    |(exfalso; omega)
    |(have z0 : World.cell? w3 ⟨w.heap.size + 1, 0, none⟩ = some (.int .i64 0) := hR3.cell 0
      have z1 : World.cell? w3 ⟨w.heap.size + 1, 1, none⟩ = some (.slice none 0 0) := hR3.cell 1
      have zf0 := hR3.frozen 0
      have zf1 := hR3.frozen 1
      have zfl := hR3.lt
      go_wp2
      refine bodyPost_ret (v := .tuple #[.agg #[.int .i64 0, .slice none 0 0], .bool false]) (by simp [results, Tryz.results71, go_sem, z0, z1]) rfl (JoinPost.no (by rw [HF.out, HT.out]; exact hbig) ?_)
      exact (hB3w.setCell (p := ⟨w.heap.size + 1, 0, none⟩) (by simp) _).setCell (p := ⟨w.heap.size + 1, 1, none⟩) (by simp) _)
   ·obtain ⟨n, hn⟩ := Int.eq_ofNat_of_zero_le (show 0 ≤ ((m[m.length - 1]'hlast).1 + ((m[m.length - 1]'hlast).2.length : Int)) - (m[0]'hm).1 by omega)
    have hw5 := window_any _ c m ((m[0]'hm).1) n w3 (hx.keep hB3w) HA.out (by omega) (by omega) (by omega) (by omega)
    rw [← hn] at hw5
    have hn' : n ≤ 256 := by omega
    have hjl : (jS m p).length = n := by unfold jS; rw [fullL_len, HF.out, HT.out, hn]; rfl
    have hnT : (n : Int) = ((m[m.length - 1]'hlast).1 + ((m[m.length - 1]'hlast).2.length : Int)) - (m[0]'hm).1 := hn.symm
    have HJL := Lib.hid hjl
    have hnT1 : (n : Int) ≤ ((m[m.length - 1]'hlast).1 + ((m[m.length - 1]'hlast).2.length : Int)) - (m[0]'hm).1 := by omega
    have hnT2 : ((m[m.length - 1]'hlast).1 + ((m[m.length - 1]'hlast).2.length : Int)) - (m[0]'hm).1 ≤ n := by omega
    have HN := Lib.hid hn
    have hdT : decide (256 < ((m[m.length - 1]'hlast).1 + ((m[m.length - 1]'hlast).2.length : Int)) - (m[0]'hm).1) = false := decide_eq_false hbig
    clear hn hjl hnT
    go_wp2_with fail
    refine (hw5).mono ?_
    rintro _ w5 ⟨g, rfl, hg, hW, hb5⟩
    have hB5 : Below W0.heap.size W0 w5 := bstep hB3 hb5
    have hsz := hB3.size
    have hsz0 := hb0.size
    clear hb5 hw5 hP3 hR3
    have hP5 := hP0.keep hB5
    have a0 : World.cell? w5 ⟨w.heap.size, 0, none⟩ = some (.int .i64 p.1) := hP5.cell 0
    have af0 := hP5.frozen 0
    have a1 : World.cell? w5 ⟨w.heap.size, 1, none⟩ = some (.slice B p.2.length d) := hP5.cell 1
    have af1 := hP5.frozen 1
    have afl := hP5.lt
    have hgne : ¬ g = w.heap.size := by omega
    have hgne2 : ¬ w.heap.size = g := by omega
    have hgne3 : ¬ g = w.heap.size + 1 := by omega
    have hgne4 : ¬ w.heap.size + 1 = g := by omega
    go_wp2
    go_loopg [9, 10, 47] p.2.length (fun gk _ _ i wr => ∃ k : Nat, k + gk = p.2.length ∧ i = .int .i64 k ∧ Blk wr g 3 ((fullL (jAt m p (p.1 + k) ((m[0]'hm).1)) n).flatMap (encI .i64)).toArray ∧ Below W0.heap.size W0 wr)
    case atStart => exact ⟨0, by omega, rfl, by rw [show p.1 + ((0 : Nat) : Int) = p.1 by omega, jAt_start]; exact hW, hB5⟩
    case round =>
     obtain ⟨k, hk, rfl, hO, hb⟩ := hrel
     have hk' : k ≤ p.2.length := by omega
     have HK := Lib.hid hk
     clear hk a0 a1 af0 af1 afl
     have hP6 := hP0.keep hb
     have a0 : World.cell? wr ⟨w.heap.size, 0, none⟩ = some (.int .i64 p.1) := hP6.cell 0
     have af0 := hP6.frozen 0
     have a1 : World.cell? wr ⟨w.heap.size, 1, none⟩ = some (.slice B p.2.length d) := hP6.cell 1
     have af1 := hP6.frozen 1
     have afl := hP6.lt
     by_cases hlt : k < p.2.length
     ·obtain ⟨e2, off2, rfl, hlw2, hw2⟩ := hy.at2 hlt
      have hc2 := ((bstep hb0 hb).cell (p := ⟨e2, _, none⟩) hlw2).trans hw2
      have es : p.2.getD k 0 = sB p (p.1 + k) := by unfold sB; congr 1; omega
      rw [es] at hc2
      have hjm : (p.1 - (m[0]'hm).1 + (k : Int)).toNat < n := by omega
      have o0 := blkI_at hO (j := (p.1 - (m[0]'hm).1 + (k : Int)).toNat) (by rw [fullL_len]; exact hjm)
      have of0 := hO.frozen (p.1 - (m[0]'hm).1 + (k : Int)).toNat
      have ol := hO.lt
      by_cases hz : sB p (p.1 + k) = 0
      ·have ez : (sB p (p.1 + k) != 0) = false := by simp [hz]
       have HS := Lib.hid (jAt_skip (m := m) (a := (m[0]'hm).1) (n := n) hz)
       clear hz es
       generalize sB p (p.1 + k) = X at *
       go_wp2
       go_roundg (gk - 1)
       case rel => exact ⟨k + 1, by have := HK.out; omega, by go_num, by rw [show p.1 + ((k + 1 : Nat) : Int) = p.1 + k + 1 by omega, ← HS.out]; exact hO, hb⟩
       case measure => have := HK.out; omega
      ·have ez : (sB p (p.1 + k) != 0) = true := by simp [hz]
       have HS := Lib.hid (jAt_set (m := m) (a := (m[0]'hm).1) (n := n) (j := (p.1 - (m[0]'hm).1 + (k : Int)).toNat) hz (by omega) (by omega))
       clear hz es
       generalize hXX : sB p (p.1 + k) = X at *
       clear hXX
       go_wp2
       go_roundg (gk - 1)
       case rel => exact ⟨k + 1, by have := HK.out; omega, by go_num, by rw [show p.1 + ((k + 1 : Nat) : Int) = p.1 + k + 1 by omega, ← HS.out]; exact blkI_set hO (by rw [fullL_len]; exact hjm) _, hb.setCell (p := ⟨g, _, none⟩) (by simp only []; omega) _⟩
       case measure => have := HK.out; omega
     ·have hkl : p.1 + (k : Int) = endB p := by unfold endB; omega
      have hR6 := hR0.keep hb
      have z0 : World.cell? wr ⟨w.heap.size + 1, 0, none⟩ = some (.int .i64 0) := hR6.cell 0
      have zf0 := hR6.frozen 0
      have z1 : World.cell? wr ⟨w.heap.size + 1, 1, none⟩ = some (.slice none 0 0) := hR6.cell 1
      have zf1 := hR6.frozen 1
      have zfl := hR6.lt
      have hO2 : Blk wr g 3 ((jS m p).flatMap (encI .i64)).toArray := by
       unfold jS
       rw [HF.out, HT.out, HN.out, ← hkl]
       exact hO
      clear hkl
      go_wp2
      refine bodyPost_ret (v := .tuple #[.agg #[.int .i64 ((m[0]'hm).1), .slice (some ⟨g, 0, none⟩) n n], .bool true]) (by simp [results, Tryz.results71, go_sem, z0, z1]) rfl (JoinPost.yes (by rw [HF.out, HT.out]; omega) HF.out HJL.out (by omega) ?_ ?_)
      ·exact (hO2.far (p := ⟨w.heap.size + 1, 0, none⟩) hgne3 _).far (p := ⟨w.heap.size + 1, 1, none⟩) hgne3 _
      ·exact ((bstep hb0 hb).setCell (p := ⟨w.heap.size + 1, 0, none⟩) (by simp) _).setCell (p := ⟨w.heap.size + 1, 1, none⟩) (by simp) _
  ·have HF : Hid (jFrom m p = (m[0]'hm).1) := Lib.hid (by unfold jFrom; rw [ef]; split <;> omega)
   have HT : Hid (jTo m p = (p.1 + (p.2.length : Int))) := Lib.hid (by unfold jTo; rw [el]; unfold endB; split <;> omega)
   clear ef el
   go_enter Tryz.func71, Tryz.ntmps71
   go_wp2
   go_region_held3 (fun w' => w'.cell? ⟨w.heap.size, 0, none⟩ = some (.int .i64 p.1) ∧ w'.cell? ⟨w.heap.size, 1, none⟩ = some (.slice B p.2.length d))
    (first | go_keep | exact ⟨(hP0.keep hB3).cell 0, (hP0.keep hB3).cell 1⟩)
    ((go_at_call 70; refine (end_any _ _ _ _ _ q1 q2 q3).mono ?_; rintro e w3 ⟨rfl, hb3⟩; have hB3 : Below W0.heap.size W0 w3 := (by exact bstep hI0.drew hb3)))
   have hc1 := ((bstep hb0 hB3).cell (p := ⟨b1, _, none⟩) hlw).trans hw1
   have hc2 := ((bstep hb0 hB3).cell (p := ⟨b1, _, none⟩) hlw).trans hz1
   have hc3 := ((bstep hb0 hB3).cell (p := ⟨b1, _, none⟩) hlw).trans hz2
   go_wp2_with fail
   refine (end_any (m[m.length - 1]'hlast).1 A2 (m[m.length - 1]'hlast).2.length c2 _ (by omega) (by omega) (by omega)).mono ?_
   rintro _ w4 ⟨rfl, hb4⟩
   have hB4 : Below W0.heap.size W0 w4 := bstep hB3 hb4
   clear hc1 hc2 hc3 hb3 hb4 hB3
   obtain ⟨w3, rfl⟩ : ∃ w3, w3 = w4 := ⟨_, rfl⟩
   have hB3 := hB4
   clear hB4
   have hB3w := bstep hb0 hB3
   have hP3 := hP0.keep hB3
   have hR3 := hR0.keep hB3
   by_cases hbig : 256 < (p.1 + (p.2.length : Int)) - (m[0]'hm).1
   ·first
    |(exfalso; omega)
    |(have z0 : World.cell? w3 ⟨w.heap.size + 1, 0, none⟩ = some (.int .i64 0) := hR3.cell 0
      have z1 : World.cell? w3 ⟨w.heap.size + 1, 1, none⟩ = some (.slice none 0 0) := hR3.cell 1
      have zf0 := hR3.frozen 0
      have zf1 := hR3.frozen 1
      have zfl := hR3.lt
      go_wp2
      refine bodyPost_ret (v := .tuple #[.agg #[.int .i64 0, .slice none 0 0], .bool false]) (by simp [results, Tryz.results71, go_sem, z0, z1]) rfl (JoinPost.no (by rw [HF.out, HT.out]; exact hbig) ?_)
      exact (hB3w.setCell (p := ⟨w.heap.size + 1, 0, none⟩) (by simp) _).setCell (p := ⟨w.heap.size + 1, 1, none⟩) (by simp) _)
   ·obtain ⟨n, hn⟩ := Int.eq_ofNat_of_zero_le (show 0 ≤ (p.1 + (p.2.length : Int)) - (m[0]'hm).1 by omega)
    have hw5 := window_any _ c m ((m[0]'hm).1) n w3 (hx.keep hB3w) HA.out (by omega) (by omega) (by omega) (by omega)
    rw [← hn] at hw5
    have hn' : n ≤ 256 := by omega
    have hjl : (jS m p).length = n := by unfold jS; rw [fullL_len, HF.out, HT.out, hn]; rfl
    have hnT : (n : Int) = (p.1 + (p.2.length : Int)) - (m[0]'hm).1 := hn.symm
    have HJL := Lib.hid hjl
    have hnT1 : (n : Int) ≤ (p.1 + (p.2.length : Int)) - (m[0]'hm).1 := by omega
    have hnT2 : (p.1 + (p.2.length : Int)) - (m[0]'hm).1 ≤ n := by omega
    have HN := Lib.hid hn
    have hdT : decide (256 < (p.1 + (p.2.length : Int)) - (m[0]'hm).1) = false := decide_eq_false hbig
    clear hn hjl hnT
    go_wp2_with fail
    refine (hw5).mono ?_
    rintro _ w5 ⟨g, rfl, hg, hW, hb5⟩
    have hB5 : Below W0.heap.size W0 w5 := bstep hB3 hb5
    have hsz := hB3.size
    have hsz0 := hb0.size
    clear hb5 hw5 hP3 hR3
    have hP5 := hP0.keep hB5
    have a0 : World.cell? w5 ⟨w.heap.size, 0, none⟩ = some (.int .i64 p.1) := hP5.cell 0
    have af0 := hP5.frozen 0
    have a1 : World.cell? w5 ⟨w.heap.size, 1, none⟩ = some (.slice B p.2.length d) := hP5.cell 1
    have af1 := hP5.frozen 1
    have afl := hP5.lt
    have hgne : ¬ g = w.heap.size := by omega
    have hgne2 : ¬ w.heap.size = g := by omega
    have hgne3 : ¬ g = w.heap.size + 1 := by omega
    have hgne4 : ¬ w.heap.size + 1 = g := by omega
    go_wp2
    go_loopg [9, 10, 47] p.2.length (fun gk _ _ i wr => ∃ k : Nat, k + gk = p.2.length ∧ i = .int .i64 k ∧ Blk wr g 3 ((fullL (jAt m p (p.1 + k) ((m[0]'hm).1)) n).flatMap (encI .i64)).toArray ∧ Below W0.heap.size W0 wr)
    case atStart => exact ⟨0, by omega, rfl, by rw [show p.1 + ((0 : Nat) : Int) = p.1 by omega, jAt_start]; exact hW, hB5⟩
    case round =>
     obtain ⟨k, hk, rfl, hO, hb⟩ := hrel
     have hk' : k ≤ p.2.length := by omega
     have HK := Lib.hid hk
     clear hk a0 a1 af0 af1 afl
     have hP6 := hP0.keep hb
     have a0 : World.cell? wr ⟨w.heap.size, 0, none⟩ = some (.int .i64 p.1) := hP6.cell 0
     have af0 := hP6.frozen 0
     have a1 : World.cell? wr ⟨w.heap.size, 1, none⟩ = some (.slice B p.2.length d) := hP6.cell 1
     have af1 := hP6.frozen 1
     have afl := hP6.lt
     by_cases hlt : k < p.2.length
     ·obtain ⟨e2, off2, rfl, hlw2, hw2⟩ := hy.at2 hlt
      have hc2 := ((bstep hb0 hb).cell (p := ⟨e2, _, none⟩) hlw2).trans hw2
      have es : p.2.getD k 0 = sB p (p.1 + k) := by unfold sB; congr 1; omega
      rw [es] at hc2
      have hjm : (p.1 - (m[0]'hm).1 + (k : Int)).toNat < n := by omega
      have o0 := blkI_at hO (j := (p.1 - (m[0]'hm).1 + (k : Int)).toNat) (by rw [fullL_len]; exact hjm)
      have of0 := hO.frozen (p.1 - (m[0]'hm).1 + (k : Int)).toNat
      have ol := hO.lt
      by_cases hz : sB p (p.1 + k) = 0
      ·have ez : (sB p (p.1 + k) != 0) = false := by simp [hz]
       have HS := Lib.hid (jAt_skip (m := m) (a := (m[0]'hm).1) (n := n) hz)
       clear hz es
       generalize sB p (p.1 + k) = X at *
       go_wp2
       go_roundg (gk - 1)
       case rel => exact ⟨k + 1, by have := HK.out; omega, by go_num, by rw [show p.1 + ((k + 1 : Nat) : Int) = p.1 + k + 1 by omega, ← HS.out]; exact hO, hb⟩
       case measure => have := HK.out; omega
      ·have ez : (sB p (p.1 + k) != 0) = true := by simp [hz]
       have HS := Lib.hid (jAt_set (m := m) (a := (m[0]'hm).1) (n := n) (j := (p.1 - (m[0]'hm).1 + (k : Int)).toNat) hz (by omega) (by omega))
       clear hz es
       generalize hXX : sB p (p.1 + k) = X at *
       clear hXX
       go_wp2
       go_roundg (gk - 1)
       case rel => exact ⟨k + 1, by have := HK.out; omega, by go_num, by rw [show p.1 + ((k + 1 : Nat) : Int) = p.1 + k + 1 by omega, ← HS.out]; exact blkI_set hO (by rw [fullL_len]; exact hjm) _, hb.setCell (p := ⟨g, _, none⟩) (by simp only []; omega) _⟩
       case measure => have := HK.out; omega
     ·have hkl : p.1 + (k : Int) = endB p := by unfold endB; omega
      have hR6 := hR0.keep hb
      have z0 : World.cell? wr ⟨w.heap.size + 1, 0, none⟩ = some (.int .i64 0) := hR6.cell 0
      have zf0 := hR6.frozen 0
      have z1 : World.cell? wr ⟨w.heap.size + 1, 1, none⟩ = some (.slice none 0 0) := hR6.cell 1
      have zf1 := hR6.frozen 1
      have zfl := hR6.lt
      have hO2 : Blk wr g 3 ((jS m p).flatMap (encI .i64)).toArray := by
       unfold jS
       rw [HF.out, HT.out, HN.out, ← hkl]
       exact hO
      clear hkl
      go_wp2
      refine bodyPost_ret (v := .tuple #[.agg #[.int .i64 ((m[0]'hm).1), .slice (some ⟨g, 0, none⟩) n n], .bool true]) (by simp [results, Tryz.results71, go_sem, z0, z1]) rfl (JoinPost.yes (by rw [HF.out, HT.out]; omega) HF.out HJL.out (by omega) ?_ ?_)
      ·exact (hO2.far (p := ⟨w.heap.size + 1, 0, none⟩) hgne3 _).far (p := ⟨w.heap.size + 1, 1, none⟩) hgne3 _
      ·exact ((bstep hb0 hb).setCell (p := ⟨w.heap.size + 1, 0, none⟩) (by simp) _).setCell (p := ⟨w.heap.size + 1, 1, none⟩) (by simp) _
 ·have d0 : decide (0 < m.length) = false := decide_eq_false hm
  go_enter Tryz.func71, Tryz.ntmps71
  go_wp2
  go_region_held3 (fun w' => w'.cell? ⟨w.heap.size, 0, none⟩ = some (.int .i64 p.1) ∧ w'.cell? ⟨w.heap.size, 1, none⟩ = some (.slice B p.2.length d))
   (first | go_keep | exact ⟨(hP0.keep hB3).cell 0, (hP0.keep hB3).cell 1⟩)
   ((go_at_call 70; refine (end_any _ _ _ _ _ q1 q2 q3).mono ?_; rintro e w3 ⟨rfl, hb3⟩; have hB3 : Below W0.heap.size W0 w3 := (by exact bstep hI0.drew hb3)))
  have HF : Hid (jFrom m p = p.1) := Lib.hid (by unfold jFrom; rw [if_neg (by omega)])
  have HT : Hid (jTo m p = p.1 + (p.2.length : Int)) := Lib.hid (by unfold jTo; rw [if_neg (by omega)]; rfl)
  have hB3w := bstep hb0 hB3
  have hP3 := hP0.keep hB3
  have hR3 := hR0.keep hB3
  by_cases hbig : 256 < (p.1 + (p.2.length : Int)) - p.1
  ·first
   |(exfalso; omega)
   |(have z0 : World.cell? w3 ⟨w.heap.size + 1, 0, none⟩ = some (.int .i64 0) := hR3.cell 0
     have z1 : World.cell? w3 ⟨w.heap.size + 1, 1, none⟩ = some (.slice none 0 0) := hR3.cell 1
     have zf0 := hR3.frozen 0
     have zf1 := hR3.frozen 1
     have zfl := hR3.lt
     go_wp2
     refine bodyPost_ret (v := .tuple #[.agg #[.int .i64 0, .slice none 0 0], .bool false]) (by simp [results, Tryz.results71, go_sem, z0, z1]) rfl (JoinPost.no (by rw [HF.out, HT.out]; exact hbig) ?_)
     exact (hB3w.setCell (p := ⟨w.heap.size + 1, 0, none⟩) (by simp) _).setCell (p := ⟨w.heap.size + 1, 1, none⟩) (by simp) _)
  ·obtain ⟨n, hn⟩ := Int.eq_ofNat_of_zero_le (show 0 ≤ (p.1 + (p.2.length : Int)) - p.1 by omega)
   have hw5 := window_any _ c m (p.1) n w3 (hx.keep hB3w) HA.out (by omega) (by omega) (by omega) (by omega)
   rw [← hn] at hw5
   have hn' : n ≤ 256 := by omega
   have hjl : (jS m p).length = n := by unfold jS; rw [fullL_len, HF.out, HT.out, hn]; rfl
   have hnT : (n : Int) = (p.1 + (p.2.length : Int)) - p.1 := hn.symm
   have HJL := Lib.hid hjl
   have hnT1 : (n : Int) ≤ (p.1 + (p.2.length : Int)) - p.1 := by omega
   have hnT2 : (p.1 + (p.2.length : Int)) - p.1 ≤ n := by omega
   have HN := Lib.hid hn
   have hdT : decide (256 < (p.1 + (p.2.length : Int)) - p.1) = false := decide_eq_false hbig
   clear hn hjl hnT
   go_wp2_with fail
   refine (hw5).mono ?_
   rintro _ w5 ⟨g, rfl, hg, hW, hb5⟩
   have hB5 : Below W0.heap.size W0 w5 := bstep hB3 hb5
   have hsz := hB3.size
   have hsz0 := hb0.size
   clear hb5 hw5 hP3 hR3
   have hP5 := hP0.keep hB5
   have a0 : World.cell? w5 ⟨w.heap.size, 0, none⟩ = some (.int .i64 p.1) := hP5.cell 0
   have af0 := hP5.frozen 0
   have a1 : World.cell? w5 ⟨w.heap.size, 1, none⟩ = some (.slice B p.2.length d) := hP5.cell 1
   have af1 := hP5.frozen 1
   have afl := hP5.lt
   have hgne : ¬ g = w.heap.size := by omega
   have hgne2 : ¬ w.heap.size = g := by omega
   have hgne3 : ¬ g = w.heap.size + 1 := by omega
   have hgne4 : ¬ w.heap.size + 1 = g := by omega
   go_wp2
   go_loopg [9, 10, 47] p.2.length (fun gk _ _ i wr => ∃ k : Nat, k + gk = p.2.length ∧ i = .int .i64 k ∧ Blk wr g 3 ((fullL (jAt m p (p.1 + k) (p.1)) n).flatMap (encI .i64)).toArray ∧ Below W0.heap.size W0 wr)
   case atStart => exact ⟨0, by omega, rfl, by rw [show p.1 + ((0 : Nat) : Int) = p.1 by omega, jAt_start]; exact hW, hB5⟩
   case round =>
    obtain ⟨k, hk, rfl, hO, hb⟩ := hrel
    have hk' : k ≤ p.2.length := by omega
    have HK := Lib.hid hk
    clear hk a0 a1 af0 af1 afl
    have hP6 := hP0.keep hb
    have a0 : World.cell? wr ⟨w.heap.size, 0, none⟩ = some (.int .i64 p.1) := hP6.cell 0
    have af0 := hP6.frozen 0
    have a1 : World.cell? wr ⟨w.heap.size, 1, none⟩ = some (.slice B p.2.length d) := hP6.cell 1
    have af1 := hP6.frozen 1
    have afl := hP6.lt
    by_cases hlt : k < p.2.length
    ·obtain ⟨e2, off2, rfl, hlw2, hw2⟩ := hy.at2 hlt
     have hc2 := ((bstep hb0 hb).cell (p := ⟨e2, _, none⟩) hlw2).trans hw2
     have es : p.2.getD k 0 = sB p (p.1 + k) := by unfold sB; congr 1; omega
     rw [es] at hc2
     have hjm : k < n := by omega
     have o0 := blkI_at hO (j := k) (by rw [fullL_len]; exact hjm)
     have of0 := hO.frozen k
     have ol := hO.lt
     by_cases hz : sB p (p.1 + k) = 0
     ·have ez : (sB p (p.1 + k) != 0) = false := by simp [hz]
      have HS := Lib.hid (jAt_skip (m := m) (a := p.1) (n := n) hz)
      clear hz es
      generalize sB p (p.1 + k) = X at *
      go_wp2
      go_roundg (gk - 1)
      case rel => exact ⟨k + 1, by have := HK.out; omega, by go_num, by rw [show p.1 + ((k + 1 : Nat) : Int) = p.1 + k + 1 by omega, ← HS.out]; exact hO, hb⟩
      case measure => have := HK.out; omega
     ·have ez : (sB p (p.1 + k) != 0) = true := by simp [hz]
      have HS := Lib.hid (jAt_set (m := m) (a := p.1) (n := n) (j := k) hz (by omega) (by omega))
      clear hz es
      generalize hXX : sB p (p.1 + k) = X at *
      clear hXX
      go_wp2
      go_roundg (gk - 1)
      case rel => exact ⟨k + 1, by have := HK.out; omega, by go_num, by rw [show p.1 + ((k + 1 : Nat) : Int) = p.1 + k + 1 by omega, ← HS.out]; exact blkI_set hO (by rw [fullL_len]; exact hjm) _, hb.setCell (p := ⟨g, _, none⟩) (by simp only []; omega) _⟩
      case measure => have := HK.out; omega
    ·have hkl : p.1 + (k : Int) = endB p := by unfold endB; omega
     have hR6 := hR0.keep hb
     have z0 : World.cell? wr ⟨w.heap.size + 1, 0, none⟩ = some (.int .i64 0) := hR6.cell 0
     have zf0 := hR6.frozen 0
     have z1 : World.cell? wr ⟨w.heap.size + 1, 1, none⟩ = some (.slice none 0 0) := hR6.cell 1
     have zf1 := hR6.frozen 1
     have zfl := hR6.lt
     have hO2 : Blk wr g 3 ((jS m p).flatMap (encI .i64)).toArray := by
      unfold jS
      rw [HF.out, HT.out, HN.out, ← hkl]
      exact hO
     clear hkl
     go_wp2
     refine bodyPost_ret (v := .tuple #[.agg #[.int .i64 (p.1), .slice (some ⟨g, 0, none⟩) n n], .bool true]) (by simp [results, Tryz.results71, go_sem, z0, z1]) rfl (JoinPost.yes (by rw [HF.out, HT.out]; omega) HF.out HJL.out (by omega) ?_ ?_)
     ·exact (hO2.far (p := ⟨w.heap.size + 1, 0, none⟩) hgne3 _).far (p := ⟨w.heap.size + 1, 1, none⟩) hgne3 _
     ·exact ((bstep hb0 hb).setCell (p := ⟨w.heap.size + 1, 0, none⟩) (by simp) _).setCell (p := ⟨w.heap.size + 1, 1, none⟩) (by simp) _
end Aln
end Go.Proofs.YtelkokcnedbmeaaGreat
