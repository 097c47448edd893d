/-
  Layer 12 (bank), contracts: Add, Shift, Power of the program.
-/
import Derived.Test.YtnhjeelcgfobnaaBkF
import Derived.BigRegion
import Derived.RegionTactic
namespace Go.Proofs.Ytnhjeelcgfobnaa
open Go.RowKit Num
set_option maxRecDepth 8000
set_option linter.unusedVariables false
set_option linter.unusedSimpArgs false
namespace Bk
open Lol

set_option maxHeartbeats 2000000 in
theorem add_any (p : Int) (A : Option Addr) (c : Nat) (a : List (List Int)) (B : Option Addr) (d : Nat) (b : List (List Int)) (w : World) (hp1 : -9223372036854775808 ≤ p) (hp2 : p ≤ 9223372036854775807) (hx : RLL .i64 w A a) (hy : RLL .i64 w B b) :
    Calls Try.prog 11 #[.int .i64 p, .slice A a.length c, .slice B b.length d] w (RetG w (addS p a b)) := by
  obtain ⟨wE, hwE⟩ : ∃ wE, wE = ((w.alloc (.cells #[.int .i64 p] 2)).alloc (.cells #[.slice A a.length c] 22)).alloc (.cells #[.slice B b.length d] 22) := ⟨_, rfl⟩
  have hk0 : Blk wE w.heap.size 2 #[.int .i64 p] := by rw [hwE]; exact ((Blk.new _ _ _).alloc _).alloc _
  have hk1 : Blk wE (w.heap.size + 1) 22 #[.slice A a.length c] := by rw [hwE]; exact (Blk.newAt _ _ (by simp)).alloc _
  have hk2 : Blk wE (w.heap.size + 1 + 1) 22 #[.slice B b.length d] := by rw [hwE]; exact Blk.newAt _ _ (by simp)
  have hbE : Below w.heap.size w wE := by rw [hwE]; exact balloc (balloc (balloc (Below.refl _ _) _) _) _
  have hxE := hx.keep hbE
  have hyE := hy.keep hbE
  have HC := Lib.hid (fun w hx hy => alike_any p A B c d a b w hp1 hp2 hx hy)
  by_cases h0 : twoE p a b = 0
  · obtain ⟨P, rfl, h7, hP2, hP, hBa, hBb, hll, hww⟩ := two_zero h0
    have hN256 := hBa.len
    have hw16 := hBa.wid16
    have c0 : (twoE (P : Int) a b != 0) = false := by rw [h0]; rfl
    have HS : Hid (addS P a b = (grd (addF P a b) (wid a) a.length, 0)) := Lib.hid (by unfold addS; rw [if_neg (by simp [h0])])
    have HKL : Hid (∀ t k (ht : t < a.length), k < wid a → ∃ ht2 : t < b.length, k < a[t].length ∧ k < b[t].length ∧ (0 ≤ a[t].getD k 0 ∧ a[t].getD k 0 < (P : Int)) ∧ (0 ≤ b[t].getD k 0 ∧ b[t].getD k 0 < (P : Int))) := Lib.hid (fun t k ht hk => by
      have ht2 : t < b.length := by omega
      obtain ⟨r1, _, _, _, r2⟩ := hBa.row t ht
      obtain ⟨s1, _, _, _, s2⟩ := hBb.row t ht2
      exact ⟨ht2, by omega, by omega, r2 k hk, s2 k (by omega)⟩)
    clear h0 hBa hBb hll hww
    go_enter Try.func11, Try.ntmps11
    go_wp2_with fail
    rw [← hwE]
    clear hwE
    refine (HC.out _ hxE hyE).mono ?_
    rintro _ w1 ⟨rfl, hb1⟩
    have hB1 := bstep hbE hb1
    replace hk0 := hk0.keep hb1
    replace hk1 := hk1.keep hb1
    replace hk2 := hk2.keep hb1
    replace hxE := hxE.keep hb1
    replace hyE := hyE.keep hb1
    have q0 : World.cell? w1 ⟨(w.heap.size + 1), 0, none⟩ = some (.slice A a.length c) := hk1.cell 0
    have f0 := hk1.frozen 0
    have fl := hk1.lt
    go_wp2_with fail
    refine (eachAdd_any (w.heap.size + 1) (w.heap.size + 1 + 1) w.heap.size (addF P a b) A c a _ hN256 hw16 hxE (fun W t k hW ht hk => ?_)).mono ?_
    · have hkA := hk1.keep hW
      have hkB := hk2.keep hW
      have hkC := hk0.keep hW
      obtain ⟨ht2, r1, r2, r3, r4⟩ := HKL.out t k ht hk
      exact add1_any (P : Int) (w.heap.size + 1) (w.heap.size + 1 + 1) w.heap.size A B c d a b W t k ht ht2 r1 r2 (by omega) r3 r4 (hkA.cell 0) hkA.lt (hkB.cell 0) hkB.lt (hkC.cell 0) hkC.lt (hxE.keep hW) (hyE.keep hW)
    · rintro _ w2 ⟨g, raws, rfl, hg, hkO, hG, hb2⟩
      go_wp2
      go_ret2
      exact RetG.grid HS.out (grd_len _ _ _) (Nat.le_trans hB1.size hg) hkO hG (bstep hB1 hb2)
  · have c0 : (twoE p a b != 0) = true := by rw [bne_iff_ne]; exact h0
    have HS : Hid (addS p a b = ([], twoE p a b)) := Lib.hid (by unfold addS; rw [if_pos h0])
    clear h0
    go_enter Try.func11, Try.ntmps11
    go_wp2_with fail
    rw [← hwE]
    clear hwE
    refine (HC.out _ hxE hyE).mono ?_
    rintro _ w1 ⟨rfl, hb1⟩
    have hB1 := bstep hbE hb1
    replace hk0 := hk0.keep hb1
    replace hk1 := hk1.keep hb1
    replace hk2 := hk2.keep hb1
    replace hxE := hxE.keep hb1
    replace hyE := hyE.keep hb1
    have q0 : World.cell? w1 ⟨(w.heap.size + 1), 0, none⟩ = some (.slice A a.length c) := hk1.cell 0
    have f0 := hk1.frozen 0
    have fl := hk1.lt
    go_wp2
    go_ret2
    exact RetG.no HS.out hB1
theorem phase_row {P : Nat} {b : List (List Int)} {d : Int} {t : Nat} (ht : t < b.length) (hF : Fit P b[t]) : phS P b[t] d = (shiftR P b d t, 0) := by
  unfold shiftR
  rw [getD_lt _ _ ht]
  unfold phS
  rw [if_pos (chkL_ok hF)]
theorem shiftR_len {P : Nat} {b : List (List Int)} {d : Int} {t : Nat} (ht : t < b.length) (hF : Fit P b[t]) : (shiftR P b d t).length = b[t].length := by
  have h := phase_row (d := d) ht hF
  have h2 : (phS P b[t] d).1 = shiftR P b d t := by rw [h]
  rw [← h2]
  unfold phS
  rw [if_pos (chkL_ok hF)]
  exact fullL_len _ _
set_option maxHeartbeats 2000000 in
theorem shift_any (p : Int) (A : Option Addr) (c : Nat) (b : List (List Int)) (d : Int) (w : World) (hp1 : -9223372036854775808 ≤ p) (hp2 : p ≤ 9223372036854775807) (hd : -9223372036854775808 ≤ d ∧ d ≤ 9223372036854775807) (hx : RLL .i64 w A b) :
    Calls Try.prog 13 #[.int .i64 p, .slice A b.length c, .int .i64 d] w (RetLL .i64 w (shiftS p b d)) := by
  have hbF : Below w.heap.size w (w.alloc (.cells #[.slice A b.length c] 22)) := balloc (Below.refl _ _) _
  have HC := Lib.hid (fun g w hk hx => banks1_any p A c b g 22 w hp1 hp2 hk hx)
  by_cases h0 : bothE12 p b = 0
  · obtain ⟨P, rfl, h7, hP2, hP, hBk⟩ := both_zero h0
    have hN256 := hBk.len
    have c0 : (bothE12 (P : Int) b != 0) = false := by rw [h0]; rfl
    have HS : Hid (shiftS P b d = (fullL (shiftR P b d) b.length, 0)) := Lib.hid (by unfold shiftS; rw [if_neg (by simp [h0])])
    have HF := Lib.hid (fun t (ht : t < b.length) => hBk.fit hP hP2 ht)
    have HPH : Hid (∀ t (ht : t < b.length) A' c' w, RI .i64 w A' b[t] → Calls Try.prog 37 #[.int .i64 (P : Int), .slice A' b[t].length c', .int .i64 d] w (RetN w (shiftR P b d t, 0))) := Lib.hid (fun t ht A' c' w hx => by
      have hF := HF.out t ht
      have := phaseN_any (P : Int) A' c' b[t] d w hx (by have := hF.l64; omega) hp1 hp2 hd
      rw [phase_row ht hF] at this
      exact this)
    have hmk := mk_slices b.length (by omega)
    clear h0 hBk hP
    go_enter Try.func13, Try.ntmps13
    go_wp2_with fail
    refine (HC.out _ _ (Blk.new _ _ _) (hx.keep hbF)).mono ?_
    rintro _ w1 ⟨rfl, hb1⟩
    have hB1 := bstep hbF hb1
    have hx1 := hx.keep hB1
    go_wp2
    go_loopg [25] b.length (fun gk i wr => ∃ (k : Nat) (raws : List Value), k + gk = b.length ∧ i = .int .i64 k ∧ Blk wr w1.heap.size 31 (rowC raws b.length) ∧ Els .i64 (w1.heap.size + 1) wr none raws (fullL (shiftR P b d) k) ∧ Below w1.heap.size w1 wr)
    case atStart => exact ⟨0, [], by omega, rfl, Blk.new w1 31 _, Els.nil, balloc (Below.refl _ _) _⟩
    case round =>
      obtain ⟨k, raws, hk, rfl, hO, hE, hb⟩ := hrel
      have hk' : k ≤ b.length := by omega
      have HK := Lib.hid hk
      clear hk hmk
      have hrl : raws.length = k := by rw [hE.1, fullL_len]
      by_cases hlt : k < b.length
      · obtain ⟨b1, off1, A', c', rfl, hlw1, hc1, hr, hcap1⟩ := hx1.at_ (i := k) hlt
        have hc2 := (hb.cell (p := ⟨b1, off1 + k, none⟩) hlw1).trans hc1
        have HFS := Lib.hid (fullL_succ (shiftR P b d) k)
        have HCP := Lib.hid (HPH.out k hlt A' c' wr (hr.keep hb))
        have HLR := Lib.hid (shiftR_len (d := d) hlt (HF.out k hlt))
        generalize hrow : shiftR P b d k = row at *
        clear hrow
        generalize hl : b[k] = l at *
        clear hl
        go_wp2_with fail
        refine (HCP.out).mono ?_
        rintro _ w2 ⟨A2, c2, rfl, r2, hcp2, hb2⟩
        have hs1 := hO.lt
        have hO2 := hO.keep hb2
        have q0 : w2.cell? ⟨w1.heap.size, k, none⟩ = some (.slice none 0 0) := by
          rw [hO2.cell, ← hrl]
          exact rowC_at (by omega)
        have f0 := hO2.frozen k
        have hg2 := hO2.lt
        have hO3 := hO2.put k (.slice A2 row.length c2)
        rw [← hrl, rowC_set (by omega), hrl] at hO3
        have hE2 := hE.keep hb2
        have hE3 := hE2.snoc (c := c2) (r2.mono hs1) hcp2 (fun _ _ _ _ => by simp)
        have hE4 := Els_far hE3 (p := ⟨w1.heap.size, k, none⟩) (by simp) (.slice A2 row.length c2)
        have HRL := Lib.hid hrl
        clear hE hE2 hE3 hO hrl
        go_wp2
        go_roundg (gk - 1)
        case rel => exact ⟨k + 1, _, by have := HK.out; omega, by go_num, hO3, by rw [HFS.out]; exact hE4, (bstep hb hb2).setCell (p := ⟨w1.heap.size, k, none⟩) (Nat.le_refl _) _⟩
        case measure => have := HK.out; omega
      · obtain rfl : k = b.length := by omega
        rw [rowC_full hrl] at hO
        have hR := blk_RLL hO hE
        clear hrl
        go_wp2
        go_ret2
        exact RetLL.own HS.out (fullL_len _ _) hR (bstep hB1 hb)
  · have c0 : (bothE12 p b != 0) = true := by rw [bne_iff_ne]; exact h0
    have HS : Hid (shiftS p b d = ([], bothE12 p b)) := Lib.hid (by unfold shiftS; rw [if_pos h0])
    clear h0
    go_enter Try.func13, Try.ntmps13
    go_wp2_with fail
    refine (HC.out _ _ (Blk.new _ _ _) (hx.keep hbF)).mono ?_
    rintro _ w1 ⟨rfl, hb1⟩
    have hB1 := bstep hbF hb1
    have hx1 := hx.keep hB1
    go_wp2
    go_ret2
    exact RetLL.no HS.out hB1
end Bk
end Go.Proofs.Ytnhjeelcgfobnaa
