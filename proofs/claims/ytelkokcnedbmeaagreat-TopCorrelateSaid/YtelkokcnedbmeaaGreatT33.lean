/-
  Parts of the proof of TopCorrelate: CrH CrI TsA.
-/
import Derived.Test.YtelkokcnedbmeaaGreatT32
import Derived.Test.YtelkokcnedbmeaaGreatT01
import Derived.Deep.LoopGhost
import Derived.StillTailTactics
namespace Go.Proofs.YtelkokcnedbmeaaGreat
open Go.RowKit Num Dft
set_option maxRecDepth 20000
set_option linter.unusedVariables false
set_option linter.unusedSimpArgs false
namespace Crs
open Lol
theorem values_w (A : Option Addr) (c : Nat) (a r : List Int) (w : World) (ha : isSpB a = true) (hr : vlL a = r) (hx : RI .i64 w A a) :
 Calls Tryz.prog 51 #[.slice A 64 c] w fun e w' => ∃ A c, e = .returned (.tuple #[.slice A 64 c, .int .i64 0]) ∧ RIo .i64 w.heap.size w' A r ∧ Below w.heap.size w w' := by
 have h := values_any A c a w hx (by rw [sp_len ha]; omega)
 rw [vl_ok ha, sp_len ha] at h
 subst hr
 refine h.mono ?_
 rintro e w' ⟨A', c', rfl, h1, h2, h3⟩
 exact ⟨A', c', by simp only [vlL_len], h1, h3⟩
theorem lgP_bd {xs ys : List Int} (hx : streamErr xs = 0) (hy : streamErr ys = 0) (m j t : Nat) (hj : j ≤ 16) : -1000000 ≤ lgP xs ys m j t ∧ lgP xs ys m j t ≤ 1000000 := by
 have h1 := (Lagw.streamErr_zero hx).1
 have hA : pcN xs ≤ 8 := by unfold pcN; omega
 have h := S_bd (f := fun j : Nat => spF xs ys (pcN xs) (pcN ys) ((t : Int) - m) ((j : Int) + 1 - (pcN xs : Int))) (n := j) (b := 2304) (fun i _ => by
  unfold spF
  by_cases hex : ∃ k0, k0 < 64 ∧ lagI k0 ((i : Int) + 1 - (pcN xs : Int)) = (t : Int) - m
  ·obtain ⟨k0, hk0, hL⟩ := hex
   rw [S_one hk0 (fun k hk hne => if_neg fun e => hne ?_), if_pos hL]
   ·have := by_bd (b := 9) (by omega) (prod_9 hx hy) (pcN xs) (pcN ys) ((i : Int) + 1 - (pcN xs : Int)) k0
    omega
   ·unfold lagI at e hL
    split at e <;> split at hL <;> omega
  ·rw [S_null fun k hk => if_neg fun e => hex ⟨k, hk, e⟩]
   omega)
 unfold lgP
 omega
theorem byF_10 {xs ys : List Int} (hx : streamErr xs = 0) (hy : streamErr ys = 0) (b : Int) (k : Nat) : -10000 ≤ byF xs ys (pcN xs) (pcN ys) b k ∧ byF xs ys (pcN xs) (pcN ys) b k ≤ 10000 := by
 have h1 := (Lagw.streamErr_zero hx).1
 have hA : pcN xs ≤ 8 := by unfold pcN; omega
 have := by_bd (b := 9) (by omega) (prod_9 hx hy) (pcN xs) (pcN ys) b k
 omega
theorem lgP_succ (xs ys : List Int) (m j : Nat) (n : Nat) : fullL (sprF (lgP xs ys m j) (byF xs ys (pcN xs) (pcN ys) ((j : Int) + 1 - (pcN xs : Int))) m ((j : Int) + 1 - (pcN xs : Int)) 64) n = fullL (lgP xs ys m (j + 1)) n := by
 refine fullL_congr fun t _ => ?_
 unfold sprF lgP
 rw [S]
 rfl
set_option maxHeartbeats 2000000 in
theorem correlate_any (A B : Option Addr) (c d n1 n2 : Nat) (xs ys : List Int) (m : Nat) (w : World) (hn1 : xs.length = n1) (hn2 : ys.length = n2) (hx : RI .i64 w A xs) (hy : RI .i64 w B ys) (hc : n1 ≤ c) (hd : n2 ≤ d) (he : streamErr xs = 0) (he2 : streamErr ys = 0) (hm : m ≤ 255) :
 Calls Tryz.prog 24 #[.slice A n1 c, .slice B n2 d, .int .i64 (m : Int)] w fun e w' => ∃ A c, e = .returned (.tuple #[.slice A (2 * m + 1) c, .int .i64 0]) ∧ RI .i64 w' A (fullL (lgF xs ys m) (2 * m + 1)) ∧ Below w.heap.size w w' := by
 subst hn1; subst hn2
 have hl5 := (Lagw.streamErr_zero he).1
 have hl6 := (Lagw.streamErr_zero he2).1
 have hA8 : pcN xs ≤ 8 := by unfold pcN; omega
 have hB8 : pcN ys ≤ 8 := by unfold pcN; omega
 obtain ⟨n, hn⟩ : ∃ n, n = 2 * m + 1 := ⟨_, rfl⟩
 have hmn : 2 * (m : Int) + 1 = (n : Int) := by omega
 have hnb : n ≤ 511 := by omega
 have HN := Lib.hid hn
 rw [← hn]
 clear hn
 obtain ⟨i0, hi0, hz0, hz1, hz2⟩ := info_int64
 have hmk := mk_row (P := Tryz.prog) 62 2 Tryz.underlying62 hi0 hz0 hz1 hz2 (encI .i64) (encI_len .i64) (by omega) 0 rfl n (by omega) (by omega)
 have HS1 := fun w hx => spectra_any A c xs w he hx hc
 have HS2 := fun w hx => spectra_any B d ys w he2 hx hd
 have HE := Lib.hid (And.intro he he2)
 have HP := Lib.hid (fun A c B d b w hx hy hb1 hb2 => products_any A B c d (spsL xs) (spsL ys) b w hx hy (fun i hi => by rw [spsL_len] at hi; rw [spsL_at _ hi]; exact sp_spc _) (fun i hi => by rw [spsL_len] at hi; rw [spsL_at _ hi]; exact sp_spc _) (by rw [spsL_len]; exact hA8) (by rw [spsL_len]; exact hB8) hb1 hb2)
 rw [spsL_len, spsL_len] at HP
 have HV := Lib.hid (fun b A c w hx => values_w A c (pdL (spsL xs) (spsL ys) b (pcN xs)) _ w (pdL_sp _ _ _ _) (by_val b (prod_9 he he2) hA8) hx)
 have hst : (List.replicate n (0 : Int)).flatMap (encI .i64) = (fullL (lgP xs ys m 0) n).flatMap (encI .i64) := by
  congr 1
  refine list_ext_getD (d := 0) (by rw [fullL_len]; simp) (fun j hj => ?_)
  have hj' : j < n := by simpa using hj
  rw [fullL_getD _ _ _ _ hj', getD_lt _ _ hj, List.getElem_replicate]
  rfl
 have HST := Lib.hid hst
 clear he he2 hst
 generalize hNA : pcN xs = NA at *
 generalize hNB : pcN ys = NB at *
 have HNA := Lib.hid hNA
 have HNB := Lib.hid hNB
 clear hNA hNB
 go_enter Tryz.func24, Tryz.ntmps24
 go_wp2_with fail
 refine (HS1 _ hx).mono ?_
 rintro _ w1 ⟨A1, c1, rfl, r1, hb1⟩
 go_wp2_with fail
 refine (HS2 _ (hy.keep hb1)).mono ?_
 rintro _ w2 ⟨A2, c2, rfl, r2, hb2⟩
 have hB2 := bstep hb1 hb2
 replace r1 := r1.keep hb2
 clear hb1 hb2 HS1 HS2
 have f1 : IntKind.i64.wrap (1 - (NA : Int)) = 1 - (NA : Int) := IntWalk.i64_in _ (by omega)
 go_wp2
 go_loopg [12] (NA + NB - 1) (fun gk i wr => ∃ (j : Nat), j + gk = NA + NB - 1 ∧ i = .int .i64 ((j : Int) + 1 - (NA : Int)) ∧ Blk wr w2.heap.size 2 ((fullL (lgP xs ys m j) n).flatMap (encI .i64)).toArray ∧ Below w2.heap.size w2 wr)
 case atStart => exact ⟨0, by omega, by simp, by rw [← HST.out]; exact Blk.new w2 2 _, balloc (Below.refl _ _) _⟩
 case round =>
  clear hmk HST
  obtain ⟨j, hj, rfl, hO, hb⟩ := hrel
  have hj' : j ≤ NA + NB - 1 := by omega
  have HJ := Lib.hid hj
  clear hj
  obtain ⟨b, hbe⟩ : ∃ b, b = (j : Int) + 1 - (NA : Int) := ⟨_, rfl⟩
  have hbb : -8 ≤ b ∧ b ≤ 20 := by omega
  have HBE := Lib.hid hbe
  rw [← hbe]
  by_cases hlt : j < NA + NB - 1
  ·have d1 : decide (b < (NB : Int)) = true := decide_eq_true (by omega)
   have f3 : IntKind.i64.wrap (b * 32) = b * 32 := IntWalk.i64_in _ (by omega)
   have hgl := hO.lt
   clear hbe
   go_wp2_with fail
   refine (HP.out A1 c1 A2 c2 b _ (r1.keep hb) (r2.keep hb) (by omega) (by omega)).mono ?_
   rintro _ w3 ⟨A3, c3, rfl, r3, hb3⟩
   have hB3 := bstep hb hb3
   have hO3 := hO.keep hb3
   go_wp2_with fail
   refine (HV.out b _ _ _ r3).mono ?_
   rintro _ w4 ⟨A4, c4, rfl, r4, hb4⟩
   have hB4 := bstep hB3 hb4
   have hO4 := hO3.keep hb4
   have hsz3 := hb3.size
   clear hb hb3 hb4 hO hO3 r3
   have HBD1 := Lib.hid (fun t => lgP_bd HE.out.1 HE.out.2 m j t (by omega))
   have HBD2 : Hid (∀ k, -10000 ≤ byF xs ys NA NB b k ∧ byF xs ys NA NB b k ≤ 10000) := Lib.hid (fun k => by rw [← HNA.out, ← HNB.out]; exact byF_10 HE.out.1 HE.out.2 b k)
   go_wp2_with fail
   refine (spread_any w2.heap.size m n (lgP xs ys m j) (byF xs ys NA NB b) A4 c4 b (b * 32) w4 HN.out hm (Int.mul_comm _ _) (by omega) (by omega) HBD1.out HBD2.out hO4 (r4.mono (by omega))).mono ?_
   rintro _ w5 ⟨rfl, hO5, hb5⟩
   have hB5 : Below w2.heap.size w2 w5 := hB4.trans hb5
   have hO6 : Blk w5 w2.heap.size 2 ((fullL (lgP xs ys m (j + 1)) n).flatMap (encI .i64)).toArray := by
    rw [← lgP_succ, HNA.out, HNB.out, ← HBE.out]
    exact hO5
   have hnx : b + 1 = ((j + 1 : Nat) : Int) + 1 - (NA : Int) := by have := HBE.out; omega
   have HNX := Lib.hid hnx
   clear hnx hO5 hO4 hB4 hb5 r4
   go_wp2
   go_roundg (gk - 1)
   case rel => exact ⟨j + 1, by have := HJ.out; omega, by rw [HNX.out], hO6, hB5⟩
   case measure => have := HJ.out; omega
  ·have d1 : decide (b < (NB : Int)) = false := decide_eq_false (by omega)
   obtain rfl : j = NA + NB - 1 := by omega
   have HEND := Lib.hid (fullL_congr (n := n) (fun t _ => lgP_end xs ys m t))
   rw [HNA.out, HNB.out] at HEND
   rw [HEND.out] at hO
   clear hbe HBE hlt
   go_wp2
   go_ret2
   exact ⟨_, _, rfl, blk_RI hO, bstep hB2 hb⟩
end Crs
end Go.Proofs.YtelkokcnedbmeaaGreat
namespace Go.Proofs.YtelkokcnedbmeaaGreat
open Go.RowKit Num Dft
set_option maxRecDepth 20000
set_option linter.unusedVariables false
set_option linter.unusedSimpArgs false
namespace Crs
open Lol
def RetL (w : World) (r : List (Int × Int) × Int) (e : Ending) (w' : World) : Prop :=
 ∃ A c, e = .returned (.tuple #[.slice A r.1.length c, .int .i64 r.2]) ∧ RL w' A r.1 ∧ Below w.heap.size w w'
theorem RetL.no {w w' : World} {x : Int} {r : List (Int × Int) × Int} (hr : r = ([], x)) (hb : Below w.heap.size w w') : RetL w r (.returned (.tuple #[.slice none 0 0, .int .i64 x])) w' := by
 subst hr; exact ⟨none, 0, rfl, RL.nil, hb⟩
theorem RetL.row {w w' : World} {A : Option Addr} {c n : Nat} {l : List (Int × Int)} {x : Int} {r : List (Int × Int) × Int} (hr : r = (l, x)) (hn : l.length = n) (h : RL w' A l) (hb : Below w.heap.size w w') : RetL w r (.returned (.tuple #[.slice A n c, .int .i64 x])) w' := by
 subst hr; subst hn; exact ⟨A, c, rfl, h, hb⟩
theorem info_lag : (Tryz.prog.info? 61).map (fun i => (i.zero, i.size, i.bytes)) = some (some (.agg #[.int .i64 0, .int .i64 0]), 2, 16) := by kernel_rfl
theorem set_pair {l : List (Int × Int)} {k : Nat} (hk : k < l.length) (x y : Int) : ((l.flatMap encP).set (k * 2) (.int .i64 x)).set (k * 2 + 1) (.int .i64 y) = (l.set k (x, y)).flatMap encP := by
 have h1 := flat_set encP 2 encP_len l k 0 (by omega) hk (.int .i64 x) (x, l[k].2) rfl
 have h2 := flat_set encP 2 encP_len (l.set k (x, l[k].2)) k 1 (by omega) (by simpa using hk) (.int .i64 y) (x, y) (by rw [List.getElem_set_self]; rfl)
 rw [Nat.add_zero] at h1
 rw [h1, h2, List.set_set]
theorem blk_pair {w : World} {g : Nat} {e : TypeId} {l : List (Int × Int)} (h : Blk w g e (l.flatMap encP).toArray) {k : Nat} (hk : k < l.length) (x y : Int) : Blk ((w.setCell ⟨g, k * 2, none⟩ (.int .i64 x)).setCell ⟨g, k * 2 + 1, none⟩ (.int .i64 y)) g e ((l.set k (x, y)).flatMap encP).toArray := by
 have h1 := (h.put (k * 2) (.int .i64 x)).put (k * 2 + 1) (.int .i64 y)
 rw [List.setIfInBounds_toArray, List.setIfInBounds_toArray, set_pair hk] at h1
 exact h1
theorem blk_pair_at {w : World} {g : Nat} {e : TypeId} {l : List (Int × Int)} (h : Blk w g e (l.flatMap encP).toArray) {k : Nat} (hk : k < l.length) : w.cell? ⟨g, k * 2, none⟩ = some (.int .i64 (l.getD k (0, 0)).1) ∧ w.cell? ⟨g, k * 2 + 1, none⟩ = some (.int .i64 (l.getD k (0, 0)).2) := by
 rw [h.cell, h.cell, getD_lt _ _ hk]
 have h1 := flat_get encP 2 encP_len l k 0 (by omega) hk
 have h2 := flat_get encP 2 encP_len l k 1 (by omega) hk
 constructor
 ·simpa [encP] using h1
 ·simpa [encP] using h2
def lagP (xs ys : List Int) (m t : Nat) : Int × Int := (lgF xs ys m t, lgF (nzL xs) (nzL ys) m t)
set_option maxHeartbeats 2000000 in
theorem crossOf_any (A B : Option Addr) (c d : Nat) (xs ys : List Int) (most : Int) (w : World) (hx : RI .i64 w A xs) (hy : RI .i64 w B ys) (hc : xs.length ≤ c) (hd : ys.length ≤ d) (hl : xs.length ≤ 140737488355328) (hl2 : ys.length ≤ 140737488355328) :
 Calls Tryz.prog 8 #[.slice A xs.length c, .slice B ys.length d, .int .i64 most] w (RetL w (Lagw.ofSpec xs ys most)) := by
 rcases (Decidable.em (streamErr xs = 0)).symm with he | he
 ·have e1 : (streamErr xs != 0) = true := by simp [he]
  have HE := Lib.hid (Lagw.ofSpec_x (ys := ys) (most := most) he)
  clear he
  go_enter Tryz.func8, Tryz.ntmps8
  go_wp2_with fail
  refine (sampleCheck_any _ _ _ _ hx hl).mono ?_
  rintro _ _ ⟨rfl, rfl⟩
  go_wp2
  go_ret2
  exact RetL.no HE.out (Below.refl _ _)
 have e1 : (streamErr xs != 0) = false := by simp [he]
 rcases (Decidable.em (streamErr ys = 0)).symm with he2 | he2
 ·have e2 : (streamErr ys != 0) = true := by simp [he2]
  have HE := Lib.hid (Lagw.ofSpec_y (most := most) he he2)
  clear he he2
  go_enter Tryz.func8, Tryz.ntmps8
  go_wp2_with fail
  refine (sampleCheck_any _ _ _ _ hx hl).mono ?_
  rintro _ _ ⟨rfl, rfl⟩
  go_wp2_with fail
  refine (sampleCheck_any _ _ _ _ hy hl2).mono ?_
  rintro _ _ ⟨rfl, rfl⟩
  go_wp2
  go_ret2
  exact RetL.no HE.out (Below.refl _ _)
 have e2 : (streamErr ys != 0) = false := by simp [he2]
 by_cases hm : most < 0 ∨ 255 < most
 ·have HE := Lib.hid (Lagw.ofSpec_m he he2 hm)
  clear he he2
  rcases hm with hm | hm
  all_goals
   go_enter Tryz.func8, Tryz.ntmps8
   go_wp2_with fail
   refine (sampleCheck_any _ _ _ _ hx hl).mono ?_
   rintro _ _ ⟨rfl, rfl⟩
   go_wp2_with fail
   refine (sampleCheck_any _ _ _ _ hy hl2).mono ?_
   rintro _ _ ⟨rfl, rfl⟩
   go_wp2
   go_ret2
   exact RetL.no HE.out (Below.refl _ _)
 obtain ⟨m, rfl⟩ : ∃ m : Nat, most = m := ⟨most.toNat, by omega⟩
 have hm5 : m ≤ 255 := by omega
 have hl5 := (Lagw.streamErr_zero he).1
 have hl6 := (Lagw.streamErr_zero he2).1
 have HE := Lib.hid (Lagw.ofSpec_ok he he2 hm5)
 have HC1 := fun w hx hy => correlate_any A B c d _ _ xs ys m w rfl rfl hx hy hc hd he he2 hm5
 have HC2 := fun A B c d w hx hy hc hd => correlate_any A B c d xs.length ys.length (nzL xs) (nzL ys) m w (nzL_len _) (nzL_len _) hx hy hc hd (nz_stream he) (nz_stream he2) hm5
 have HEND := Lib.hid (lags_eq xs ys m)
 have HLL := Lib.hid (Lagw.lagCells_len xs ys m)
 have HB1 := Lib.hid (fun t => lgF_bd he he2 m t)
 obtain ⟨n, hn⟩ : ∃ n, n = 2 * m + 1 := ⟨_, rfl⟩
 have hmn : 2 * (m : Int) + 1 = (n : Int) := by omega
 have hnb : n ≤ 511 := by omega
 rw [← hn] at HC1 HC2 HEND HLL
 clear he he2 hn hm
 obtain ⟨i0, hi0, hz0, hz1, hz2⟩ := info_parts info_lag
 have hmk := mk_row (P := Tryz.prog) 28 61 Tryz.underlying28 hi0 hz0 hz1 hz2 encP encP_len (by omega) (0, 0) rfl n (by omega) (by omega)
 go_enter Tryz.func8, Tryz.ntmps8
 go_wp2_with fail
 refine (sampleCheck_any _ _ _ _ hx hl).mono ?_
 rintro _ _ ⟨rfl, rfl⟩
 go_wp2_with fail
 refine (sampleCheck_any _ _ _ _ hy hl2).mono ?_
 rintro _ _ ⟨rfl, rfl⟩
 go_wp2_with fail
 refine (HC1 _ hx hy).mono ?_
 rintro _ w1 ⟨A1, c1, rfl, r1, hb1⟩
 go_wp2_with fail
 refine (ones_any _ _ _ _ (hx.keep hb1) (by omega)).mono ?_
 rintro _ w2 ⟨A2, c2, rfl, r2, hc2, hb2⟩
 have hB2 := bstep hb1 hb2
 go_wp2_with fail
 refine (ones_any _ _ _ _ (hy.keep hB2) (by omega)).mono ?_
 rintro _ w3 ⟨A3, c3, rfl, r3, hc3, hb3⟩
 have hB3 := bstep hB2 hb3
 go_wp2_with fail
 refine (HC2 _ _ _ _ _ (r2.keep hb3) r3 hc2 hc3).mono ?_
 rintro _ w4 ⟨A4, c4, rfl, r4, hb4⟩
 have hB4 := bstep hB3 hb4
 replace r1 := ((r1.keep hb2).keep hb3).keep hb4
 clear hb1 hb2 hb3 hb4 hB2 hB3 r2 r3 HC1 HC2
 go_wp2
 go_loopg [59] n (fun gk i wr => ∃ (k : Nat), k + gk = n ∧ i = .int .i64 k ∧ Blk wr w4.heap.size 61 ((partL (lagP xs ys m) (0, 0) n k).flatMap encP).toArray ∧ Below w4.heap.size w4 wr)
 case atStart => exact ⟨0, by omega, rfl, by rw [partL_start]; exact Blk.new w4 61 _, balloc (Below.refl _ _) _⟩
 case round =>
  obtain ⟨k, hk, rfl, hO, hb⟩ := hrel
  have hk' : k ≤ n := by omega
  have HK := Lib.hid hk
  clear hk hmk
  by_cases hlt : k < n
  ·obtain ⟨b1, off1, rfl, hlw1, hc1⟩ := (r1.keep hb).at2 (i := k) (by rw [fullL_len]; exact hlt)
   obtain ⟨b2, off2, rfl, hlw2, hc2'⟩ := (r4.keep hb).at2 (i := k) (by rw [fullL_len]; exact hlt)
   rw [fullL_getD _ _ _ _ hlt] at hc1 hc2'
   obtain ⟨o0, o1⟩ := blk_pair_at hO (k := k) (by rw [partL_len]; exact hlt)
   have of0 := hO.frozen (k * 2)
   have of1 := hO.frozen (k * 2 + 1)
   have hgl := hO.lt
   have HM := Lib.hid (partL_set (lagP xs ys m) (0, 0) n k (lgF xs ys m k, lgF (nzL xs) (nzL ys) m k) rfl)
   go_wp2
   all_goals go_region
   all_goals go_wp2
   all_goals
    go_roundg (gk - 1)
    case rel => exact ⟨k + 1, by have := HK.out; omega, by go_num, by rw [← HM.out]; exact (blk_pair hO (by rw [partL_len]; exact hlt) _ _).drew, ((hb.setCell (p := ⟨w4.heap.size, k * 2, none⟩) (Nat.le_refl _) _).setCell (p := ⟨w4.heap.size, k * 2 + 1, none⟩) (Nat.le_refl _) _).drew⟩
    case measure => have := HK.out; omega
  ·rw [partL_end _ _ _ _ (by omega)] at hO
   have e5 : fullL (lagP xs ys m) n = Lagw.lagCells xs ys m := HEND.out
   rw [e5] at hO
   clear e5
   go_wp2
   go_ret2
   exact RetL.row HE.out HLL.out (blk_RL hO) (bstep hB4 hb)
end Crs
end Go.Proofs.YtelkokcnedbmeaaGreat
namespace Go.Proofs.YtelkokcnedbmeaaGreat
open Go.RowKit
set_option maxRecDepth 20000
set_option linter.unusedSimpArgs false
set_option linter.unusedVariables false
namespace Srch
def turnG (v : Int × Int) (q : Int) : Int × Int := if q % 4 = 1 then (-v.2, v.1) else if q % 4 = 2 then (-v.1, -v.2) else if q % 4 = 3 then (v.2, -v.1) else v
theorem quarter_bd (q : Int) : -4 < q.tmod 4 ∧ q.tmod 4 < 4 := ⟨Int.lt_tmod_of_pos q (by omega), Int.tmod_lt_of_pos q (by omega)⟩
theorem quarter (q : Int) : (q.tmod 4 + 4).tmod 4 = q % 4 := by
 have h := quarter_bd q
 have h2 := Int.mul_tdiv_add_tmod q 4
 rw [Int.tmod_eq_emod_of_nonneg (by omega)]
 omega
theorem turnG_1 {v : Int × Int} {q : Int} (h : q % 4 = 1) : turnG v q = (-v.2, v.1) := by simp [turnG, h]
theorem turnG_2 {v : Int × Int} {q : Int} (h : q % 4 = 2) : turnG v q = (-v.1, -v.2) := by simp [turnG, h]
theorem turnG_3 {v : Int × Int} {q : Int} (h : q % 4 = 3) : turnG v q = (v.2, -v.1) := by simp [turnG, h]
theorem turnG_0 {v : Int × Int} {q : Int} (h : q % 4 = 0) : turnG v q = v := by simp [turnG, h]
abbrev gaussV (v : Int × Int) : Value := .agg #[.int .i64 v.1, .int .i64 v.2]
theorem turned_any (v : Int × Int) (q : Int) (w : World) (h1 : -9223372036854775807 ≤ v.1) (h2 : v.1 ≤ 9223372036854775807) (h3 : -9223372036854775807 ≤ v.2) (h4 : v.2 ≤ 9223372036854775807) :
 Calls Tryz.prog 99 #[gaussV v, .int .i64 q] w fun e w' => e = .returned (gaussV (turnG v q)) ∧ Below w.heap.size w w' := by
 obtain ⟨hb1, hb2⟩ := quarter_bd q
 have hq := quarter q
 obtain ⟨v0, v1⟩ := v
 rcases (show q % 4 = 0 ∨ q % 4 = 1 ∨ q % 4 = 2 ∨ q % 4 = 3 by omega) with h | h | h | h
 all_goals
  rw [h] at hq
  go_enter Tryz.func99, Tryz.ntmps99
  go_wp2
 ·exact bodyPost_ret (v := gaussV (v0, v1)) (by simp [results, Tryz.results99, go_sem]) rfl ⟨by rw [turnG_0 h], balloc (balloc (Below.refl _ _) _) _⟩
 ·exact bodyPost_ret (v := gaussV (-v1, v0)) (by simp [results, Tryz.results99, go_sem]) rfl ⟨by rw [turnG_1 h], balloc (balloc (Below.refl _ _) _) _⟩
 ·exact bodyPost_ret (v := gaussV (-v0, -v1)) (by simp [results, Tryz.results99, go_sem]) rfl ⟨by rw [turnG_2 h], balloc (balloc (Below.refl _ _) _) _⟩
 ·exact bodyPost_ret (v := gaussV (v1, -v0)) (by simp [results, Tryz.results99, go_sem]) rfl ⟨by rw [turnG_3 h], balloc (balloc (Below.refl _ _) _) _⟩
theorem Turned_any (v : Int × Int) (q : Int) (w : World) (h1 : -9223372036854775807 ≤ v.1) (h2 : v.1 ≤ 9223372036854775807) (h3 : -9223372036854775807 ≤ v.2) (h4 : v.2 ≤ 9223372036854775807) :
 Calls Tryz.prog 79 #[gaussV v, .int .i64 q] w fun e w' => e = .returned (gaussV (turnG v q)) ∧ Below w.heap.size w w' := by
 obtain ⟨hb1, hb2⟩ := quarter_bd q
 have hq := quarter q
 obtain ⟨v0, v1⟩ := v
 rcases (show q % 4 = 0 ∨ q % 4 = 1 ∨ q % 4 = 2 ∨ q % 4 = 3 by omega) with h | h | h | h
 all_goals
  rw [h] at hq
  go_enter Tryz.func79, Tryz.ntmps79
  go_wp2
 ·exact bodyPost_ret (v := gaussV (v0, v1)) (by simp [results, Tryz.results79, go_sem]) rfl ⟨by rw [turnG_0 h], balloc (balloc (Below.refl _ _) _) _⟩
 ·exact bodyPost_ret (v := gaussV (-v1, v0)) (by simp [results, Tryz.results79, go_sem]) rfl ⟨by rw [turnG_1 h], balloc (balloc (Below.refl _ _) _) _⟩
 ·exact bodyPost_ret (v := gaussV (-v0, -v1)) (by simp [results, Tryz.results79, go_sem]) rfl ⟨by rw [turnG_2 h], balloc (balloc (Below.refl _ _) _) _⟩
 ·exact bodyPost_ret (v := gaussV (v1, -v0)) (by simp [results, Tryz.results79, go_sem]) rfl ⟨by rw [turnG_3 h], balloc (balloc (Below.refl _ _) _) _⟩
theorem isStep_any (x : Int) (w : World) : Calls Tryz.prog 98 #[.int .i64 x] w fun e w' => e = .returned (.bool (decide (1 ≤ x ∧ x ≤ 256))) ∧ w = w' := by
 go_enter Tryz.func98, Tryz.ntmps98
 go_wp2
 all_goals go_ret
 all_goals exact ⟨ret_bool (by symm; simp; omega), rfl⟩
theorem isRate_any (x : Int) (w : World) : Calls Tryz.prog 77 #[.int .i64 x] w fun e w' => e = .returned (.bool (decide (0 ≤ x ∧ x ≤ 3))) ∧ w = w' := by
 go_enter Tryz.func77, Tryz.ntmps77
 go_wp2
 all_goals go_ret
 all_goals exact ⟨ret_bool (by symm; simp; omega), rfl⟩
def fitG (v : Int × Int) : Prop := -1000000000 ≤ v.1 ∧ v.1 ≤ 1000000000 ∧ -1000000000 ≤ v.2 ∧ v.2 ≤ 1000000000
instance (v : Int × Int) : Decidable (fitG v) := by unfold fitG; exact inferInstance
def askErr (xs ys : List Int) (s : Int) : Int := if streamErr xs ≠ 0 then streamErr xs else if streamErr ys ≠ 0 then streamErr ys else if s < 1 ∨ 256 < s then 2 else 0
theorem askErr_zero {xs ys : List Int} {s : Int} (h : askErr xs ys s = 0) : streamErr xs = 0 ∧ streamErr ys = 0 ∧ 1 ≤ s ∧ s ≤ 256 := by
 unfold askErr at h
 repeat' split at h
 all_goals omega
theorem check20_any (A B : Option Addr) (c d : Nat) (xs ys : List Int) (s : Int) (w : World) (hx : RI .i64 w A xs) (hy : RI .i64 w B ys) (hl : xs.length ≤ 140737488355328) (hl2 : ys.length ≤ 140737488355328) :
 Calls Tryz.prog 76 #[.slice A xs.length c, .slice B ys.length d, .int .i64 s] w fun e w' => e = .returned (.int .i64 (askErr xs ys s)) ∧ w = w' := by
 by_cases h1 : streamErr xs = 0
 ·have e1 : (streamErr xs != 0) = false := by simp [h1]
  by_cases h2 : streamErr ys = 0
  ·have e2 : (streamErr ys != 0) = false := by simp [h2]
   have HH := Lib.hid (And.intro h1 h2)
   clear h1 h2
   by_cases h3 : 1 ≤ s ∧ s ≤ 256
   ·have d3 : decide (1 ≤ s ∧ s ≤ 256) = true := by simp; omega
    go_enter Tryz.func76, Tryz.ntmps76
    go_wp2_with fail
    refine (sampleCheck_any _ _ _ _ hx hl).mono ?_
    rintro e w' ⟨rfl, rfl⟩
    go_wp2_with fail
    refine (sampleCheck_any _ _ _ _ hy hl2).mono ?_
    rintro e w' ⟨rfl, rfl⟩
    go_wp2_with fail
    refine (isStep_any _ _).mono ?_
    rintro e w' ⟨rfl, rfl⟩
    go_wp2
    go_ret
    exact ⟨ret_int (by have := HH.out; simp [askErr, this]; omega), rfl⟩
   ·have d3 : decide (1 ≤ s ∧ s ≤ 256) = false := by simp; omega
    go_enter Tryz.func76, Tryz.ntmps76
    go_wp2_with fail
    refine (sampleCheck_any _ _ _ _ hx hl).mono ?_
    rintro e w' ⟨rfl, rfl⟩
    go_wp2_with fail
    refine (sampleCheck_any _ _ _ _ hy hl2).mono ?_
    rintro e w' ⟨rfl, rfl⟩
    go_wp2_with fail
    refine (isStep_any _ _).mono ?_
    rintro e w' ⟨rfl, rfl⟩
    go_wp2
    go_ret
    exact ⟨ret_int (by have := HH.out; simp [askErr, this]; omega), rfl⟩
  ·have e2 : (streamErr ys != 0) = true := by simp [h2]
   have HH := Lib.hid (And.intro h1 h2)
   clear h1 h2
   go_enter Tryz.func76, Tryz.ntmps76
   go_wp2_with fail
   refine (sampleCheck_any _ _ _ _ hx hl).mono ?_
   rintro e w' ⟨rfl, rfl⟩
   go_wp2_with fail
   refine (sampleCheck_any _ _ _ _ hy hl2).mono ?_
   rintro e w' ⟨rfl, rfl⟩
   go_wp2
   go_ret
   exact ⟨ret_int (by have := HH.out; simp [askErr, this]), rfl⟩
 ·have e1 : (streamErr xs != 0) = true := by simp [h1]
  have HH := Lib.hid h1
  clear h1
  go_enter Tryz.func76, Tryz.ntmps76
  go_wp2_with (go_at_call 23; refine (sampleCheck_any A _ xs _ hx hl).mono ?_; rintro e w' ⟨rfl, rfl⟩)
  go_ret
  exact ⟨ret_int (by have := HH.out; simp [askErr, this]), rfl⟩
end Srch
end Go.Proofs.YtelkokcnedbmeaaGreat
