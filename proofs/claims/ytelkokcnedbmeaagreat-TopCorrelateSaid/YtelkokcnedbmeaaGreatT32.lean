/-
  Parts of the proof of TopCorrelate: CrD CrE CrF CrG.
-/
import Derived.Test.YtelkokcnedbmeaaGreatT31
namespace Go.Proofs.YtelkokcnedbmeaaGreat
open Go.RowKit Num Dft
set_option maxRecDepth 20000
set_option linter.unusedVariables false
set_option linter.unusedSimpArgs false
namespace Crs
noncomputable def spsL (xs : List Int) : List (List Int) := fullL (fun i => spcL (pcI xs i)) (pcN xs)
theorem spsL_len (xs : List Int) : (spsL xs).length = pcN xs := fullL_len _ _
theorem spsL_at (xs : List Int) {i : Nat} (h : i < pcN xs) : (spsL xs).getD i [] = spcL (pcI xs i) := fullL_getD _ _ _ _ h
theorem pcI_at (xs : List Int) (i k : Nat) : (pcI xs i).getD k 0 = pcF xs i k := by
 unfold pcF
 by_cases h : k < 32
 ·rw [if_pos h]
  simp [pcI, List.getD_eq_getElem?_getD, List.getElem?_take, h]
 ·rw [if_neg h]
  have : ¬ k < 32 := h
  simp [pcI, List.getD_eq_getElem?_getD, List.getElem?_take, this]
theorem spcL_pc (xs : List Int) (i : Nat) : spcL (pcI xs i) = fwdL 7681 (resL 7681 64 (pcF xs i)) := by
 unfold spcL
 congr 2
 funext k
 exact pcI_at xs i k
theorem pc_stream {xs : List Int} (h : streamErr xs = 0) (i : Nat) : streamErr (pcI xs i) = 0 := by
 obtain ⟨h1, h2⟩ := Lagw.streamErr_zero h
 refine streamErr_ok ?_ fun x hx => h2 x ?_
 ·unfold pcI; rw [List.length_take, List.length_drop]; omega
 ·unfold pcI at hx; exact List.mem_of_mem_drop (List.mem_of_mem_take hx)
theorem pc_small (xs : List Int) (i : Nat) : (pcI xs i).length ≤ 32 := by unfold pcI; rw [List.length_take]; omega
def pairB (B : Nat) (b : Int) (i : Nat) : Bool := decide (0 ≤ (i : Int) + b ∧ (i : Int) + b < B)
def pdF (La Lb : List (List Int)) (b : Int) (k : Nat) : Nat → Int
 | 0 => 0
 | i + 1 => if pairB Lb.length b i = true then (pdF La Lb b k i + prdF (La.getD i []) (Lb.getD ((i : Int) + b).toNat []) k) % 7681 else pdF La Lb b k i
def pdL (La Lb : List (List Int)) (b : Int) (i : Nat) : List Int := fullL (fun k => pdF La Lb b k i) 64
theorem pdL_len (La Lb : List (List Int)) (b : Int) (i : Nat) : (pdL La Lb b i).length = 64 := fullL_len _ _
theorem pdF_bd (La Lb : List (List Int)) (b : Int) (k i : Nat) : 0 ≤ pdF La Lb b k i ∧ pdF La Lb b k i < 7681 := by
 induction i with
 | zero => exact ⟨Int.le_refl _, by unfold pdF; omega⟩
 | succ i ih =>
  unfold pdF
  split
  ·exact ⟨Int.emod_nonneg _ (by omega), Int.emod_lt_of_pos _ (by omega)⟩
  ·exact ih
theorem pdL_sp (La Lb : List (List Int)) (b : Int) (i : Nat) : isSpB (pdL La Lb b i) = true := decide_eq_true ⟨pdL_len _ _ _ _, fun j hj => by
 rw [pdL_len] at hj
 unfold pdL
 rw [fullL_getD _ _ _ _ hj]
 exact pdF_bd _ _ _ _ _⟩
theorem prdF_K (xs ys : List Int) (i j k : Nat) : prdF (spcL (pcI xs i)) (spcL (pcI ys j)) k = prK 7681 64 (pcF xs i) (pcF ys j) k % 7681 := by
 unfold prdF prK
 rw [spcL_pc, spcL_pc]
theorem pdF_S (xs ys : List Int) (b : Int) (k i : Nat) (hi : i ≤ pcN xs) : pdF (spsL xs) (spsL ys) b k i = S (fun i => if pairB (pcN ys) b i = true then prK 7681 64 (pcF xs i) (pcF ys ((i : Int) + b).toNat) k else 0) i % 7681 := by
 induction i with
 | zero => rfl
 | succ i ih =>
  rw [pdF, S, spsL_len, ih (by omega)]
  by_cases h : pairB (pcN ys) b i = true
  ·have h2 := of_decide_eq_true h
   rw [if_pos h, if_pos h, spsL_at xs (by omega), spsL_at ys (by omega), prdF_K, ← Int.add_emod]
  ·rw [if_neg h, if_neg h, Int.add_zero]
theorem byF_mask (xs ys : List Int) (A B : Nat) (b : Int) (m : Nat) : byF xs ys A B b m = S (fun i => if pairB B b i = true then corF 64 (pcF xs i) (pcF ys ((i : Int) + b).toNat) m else 0) A := by
 unfold byF
 refine S_congr fun i _ => ?_
 unfold pairB
 by_cases h : 0 ≤ (i : Int) + b ∧ (i : Int) + b < B
 ·rw [if_pos h, if_pos (decide_eq_true h)]
 ·rw [if_neg h, if_neg (by simpa using h)]
theorem by_val {xs ys : List Int} (b : Int) (hb : ∀ i k, -9 ≤ xs.getD i 0 * ys.getD k 0 ∧ xs.getD i 0 * ys.getD k 0 ≤ 9) (hA : pcN xs ≤ 8) : vlL (pdL (spsL xs) (spsL ys) b (pcN xs)) = fullL (byF xs ys (pcN xs) (pcN ys) b) 64 := by
 have e1 : pdL (spsL xs) (spsL ys) b (pcN xs) = fullL (fun k => S (fun i => if pairB (pcN ys) b i = true then prK 7681 64 (pcF xs i) (pcF ys ((i : Int) + b).toNat) k else 0) (pcN xs) % ((7681 : Nat) : Int)) 64 :=
  fullL_congr fun k _ => pdF_S xs ys b k _ (Nat.le_refl _)
 have e2 := sum_back ok_p (pcN xs) (pairB (pcN ys) b) (pcF xs) (fun i => pcF ys ((i : Int) + b).toNat)
 rw [← e1] at e2
 have e3 : bkL 7681 (pdL (spsL xs) (spsL ys) b (pcN xs)) = resL 7681 64 (byF xs ys (pcN xs) (pcN ys) b) := by
  have e4 := bk_sp (fit_sp (pdL_sp (spsL xs) (spsL ys) b (pcN xs)))
  have e5 : bkS ((7681 : Nat) : Int) (pdL (spsL xs) (spsL ys) b (pcN xs)) = bkS 7681 (pdL (spsL xs) (spsL ys) b (pcN xs)) := rfl
  rw [e5, e4] at e2
  refine (Prod.mk.inj e2).1.trans ?_
  exact congrArg (resL 7681 64) (funext fun m => (byF_mask xs ys (pcN xs) (pcN ys) b m).symm)
 unfold vlL
 refine fullL_congr fun k hk => ?_
 unfold vlF
 rw [e3]
 refine sg_res _ (fun k _ => ?_) hk
 have := by_bd (b := 9) (by omega) hb (pcN xs) (pcN ys) b k
 have h8 : ((pcN xs : Nat) : Int) ≤ 8 := by omega
 omega
def lgF (xs ys : List Int) (m t : Nat) : Int := S (fun u => xs.getD u 0 * yI ys ((u : Int) + ((t : Int) - m))) xs.length
def lgP (xs ys : List Int) (m n : Nat) (t : Nat) : Int := S (fun j => spF xs ys (pcN xs) (pcN ys) ((t : Int) - m) ((j : Int) + 1 - (pcN xs : Int))) n
theorem lgP_end (xs ys : List Int) (m t : Nat) : lgP xs ys m (pcN xs + pcN ys - 1) t = lgF xs ys m t := by
 unfold lgP lgF
 exact spread_law xs ys (by unfold pcN; omega) (by unfold pcN; omega) _
theorem S_sumR (f : Nat → Int) (n : Nat) : S f n = sumR f n := by
 induction n with
 | zero => rfl
 | succ n ih => rw [S, sumR_succ, ih]
theorem yI_if (ys : List Int) (z : Int) : yI ys z = if 0 ≤ z ∧ z < ys.length then ys.getD z.toNat 0 else 0 := by
 by_cases h : yI ys z = 0
 ·split
  ·rename_i h2
   unfold yI at h
   rw [if_pos h2.1] at h
   rw [h]
   unfold yI
   rw [if_pos h2.1, h]
  ·exact h
 ·have h2 := yI_in h
  rw [if_pos h2]
  unfold yI
  rw [if_pos h2.1]
theorem lg_pair (xs ys : List Int) (m t : Nat) : lgF xs ys m t = Lagw.pairSum (Lagw.prodF xs ys) xs.length ys.length ((t : Int) - m) := by
 unfold lgF Lagw.pairSum
 rw [S_sumR]
 refine sumR_congr fun u hu => ?_
 rw [Lagw.inner_one, yI_if]
 by_cases h : 0 ≤ (u : Int) + ((t : Int) - m) ∧ (u : Int) + ((t : Int) - m) < ys.length
 ·rw [if_pos h, if_pos h]; rfl
 ·rw [if_neg h, if_neg h, Int.mul_zero]
theorem nzL_len (xs : List Int) : (nzL xs).length = xs.length := fullL_len _ _
theorem nzL_at (xs : List Int) (k : Nat) : (nzL xs).getD k 0 = Lagw.nz (xs.getD k 0) := by
 unfold nzL
 rcases Nat.lt_or_ge k xs.length with h | h
 ·rw [fullL_getD _ _ _ _ h]; rfl
 ·rw [getD_out (by rw [fullL_len]; exact h), getD_out h]; rfl
theorem nz_stream {xs : List Int} (h : streamErr xs = 0) : streamErr (nzL xs) = 0 := by
 obtain ⟨h1, _⟩ := Lagw.streamErr_zero h
 refine streamErr_ok (by rw [nzL_len]; exact h1) fun x hx => ?_
 obtain ⟨i, hi, rfl⟩ := List.mem_iff_getElem.1 hx
 have e := nzL_at xs i
 rw [getD_lt _ _ hi] at e
 rw [e]
 rcases Lagw.nz_01 (xs.getD i 0) with h2 | h2 <;> rw [h2] <;> decide
theorem lg_nz (xs ys : List Int) (m t : Nat) : lgF (nzL xs) (nzL ys) m t = Lagw.pairSum (Lagw.cntF xs ys) xs.length ys.length ((t : Int) - m) := by
 rw [lg_pair, nzL_len, nzL_len]
 unfold Lagw.pairSum
 refine sumR_congr fun i _ => sumR_congr fun k _ => ?_
 unfold Lagw.prodF Lagw.cntF
 rw [nzL_at, nzL_at]
theorem lags_eq (xs ys : List Int) (m : Nat) : fullL (fun t => (lgF xs ys m t, lgF (nzL xs) (nzL ys) m t)) (2 * m + 1) = Lagw.lagCells xs ys m := by
 refine list_ext_getD (d := (0, 0)) (by rw [fullL_len, Lagw.lagCells_len]) (fun t ht => ?_)
 rw [fullL_len] at ht
 rw [fullL_getD _ _ _ _ ht, Lagw.lagCells_at ht, lg_pair, lg_nz]
theorem prod_9 {xs ys : List Int} (hx : streamErr xs = 0) (hy : streamErr ys = 0) (i k : Nat) : -9 ≤ xs.getD i 0 * ys.getD k 0 ∧ xs.getD i 0 * ys.getD k 0 ≤ 9 := Lagw.prod_bd (Lagw.stream_at hx i) (Lagw.stream_at hy k)
theorem lgF_bd {xs ys : List Int} (hx : streamErr xs = 0) (hy : streamErr ys = 0) (m t : Nat) : -2304 ≤ lgF xs ys m t ∧ lgF xs ys m t ≤ 2304 := by
 have h1 := (Lagw.streamErr_zero hx).1
 have := S_bd (f := fun u => xs.getD u 0 * yI ys ((u : Int) + ((t : Int) - m))) (n := xs.length) (b := 9) (fun u _ => by
  rw [yI_if]
  split
  ·exact prod_9 hx hy _ _
  ·rw [Int.mul_zero]; omega)
 unfold lgF
 omega
end Crs
end Go.Proofs.YtelkokcnedbmeaaGreat
namespace Go.Proofs.YtelkokcnedbmeaaGreat
open Go.RowKit Num Dft
set_option maxRecDepth 20000
set_option linter.unusedVariables false
set_option linter.unusedSimpArgs false
namespace Crs
open Lol
theorem info_ints64 : (Tryz.prog.info? 62).map (fun i => (i.zero, i.size, i.bytes)) = some (some (.slice none 0 0), 1, 24) := by kernel_rfl
def rowC (raws : List Value) (n : Nat) : Array Value := (raws ++ List.replicate (n - raws.length) (Value.slice none 0 0)).toArray
theorem mk_slices (n : Nat) (hn : n ≤ 1000) (w : World) : (Instr.makeSlice 101 (.int .i64 (n : Int)) (.int .i64 (n : Int))).run Tryz.prog w = .ok (.slice (some ⟨w.heap.size, 0, none⟩) n n) (w.alloc (.cells (rowC [] n) 62)) := by
 obtain ⟨i0, hi0, hz0, hz1, hz2⟩ := info_parts info_ints64
 have h := mk_row (P := Tryz.prog) 101 62 Tryz.underlying101 hi0 hz0 hz1 hz2 (fun v : Value => [v]) (fun _ => rfl) (by omega) (.slice none 0 0) rfl n (by omega) (by omega) w
 have e : ((List.replicate n (Value.slice none 0 0)).flatMap fun v : Value => [v]).toArray = rowC [] n := by
  unfold rowC
  simp
 rw [e] at h
 exact h
theorem rowC_set {raws : List Value} {n : Nat} (h : raws.length < n) (v : Value) : (rowC raws n).setIfInBounds raws.length v = rowC (raws ++ [v]) n := by
 unfold rowC
 rw [List.setIfInBounds_toArray]
 congr 1
 apply List.ext_getElem (by simp; omega)
 intro i h1 h2
 rw [List.getElem_set]
 rcases Nat.lt_trichotomy i raws.length with h3 | h3 | h3
 ·rw [if_neg (by omega), List.getElem_append_left h3, List.getElem_append_left (by simp; omega), List.getElem_append_left h3]
 ·subst h3
  rw [if_pos rfl, List.getElem_append_left (by simp)]
  simp
 ·rw [if_neg (by omega), List.getElem_append_right (by omega), List.getElem_append_right (by simp; omega)]
  simp
theorem rowC_at {raws : List Value} {n : Nat} (h : raws.length < n) : (rowC raws n)[raws.length]? = some (.slice none 0 0) := by
 unfold rowC
 rw [List.getElem?_toArray, List.getElem?_append_right (Nat.le_refl _), Nat.sub_self, List.getElem?_replicate, if_pos (by omega)]
theorem rowC_full {raws : List Value} {n : Nat} (h : raws.length = n) : rowC raws n = raws.toArray := by
 unfold rowC
 simp [h]
theorem Els_far {k : IntKind} {base : Nat} {w : World} {own : Option Nat} {raws : List Value} {L : List (List Int)} (h : Els k base w own raws L) {p : Addr} (hp : p.block < base) (u : Value) : Els k base (w.setCell p u) own raws L := by
 refine ⟨h.1, fun j h1 h2 => ?_⟩
 obtain ⟨A, c, e2, h3, h4, h5⟩ := h.2 j h1 h2
 exact ⟨A, c, e2, h3.far hp u, h4, h5⟩
theorem pieces_w (A : Option Addr) (c : Nat) (xs : List Int) (w : World) (he : streamErr xs = 0) (hx : RI .i64 w A xs) (hcap : xs.length ≤ c) (hl : xs.length ≤ 140737488355328) :
 Calls Tryz.prog 81 #[.slice A xs.length c] w fun e w' => ∃ A c, e = .returned (.tuple #[.slice A (pcN xs) c, .int .i64 0]) ∧ RLL .i64 w' A (pcs xs) ∧ Below w.heap.size w w' := by
 have h := pieces_any A c xs w hx hcap hl
 rw [pcS_ok he] at h
 refine h.mono ?_
 rintro e w' ⟨A', c', rfl, h1, h2⟩
 exact ⟨A', c', by simp only [pcs_len], h1, h2⟩
theorem spectrum_w (A : Option Addr) (c : Nat) (xs : List Int) (w : World) (he : streamErr xs = 0) (h32 : xs.length ≤ 32) (hx : RI .i64 w A xs) :
 Calls Tryz.prog 82 #[.slice A xs.length c] w fun e w' => ∃ A c, e = .returned (.tuple #[.slice A 64 c, .int .i64 0]) ∧ RIo .i64 w.heap.size w' A (spcL xs) ∧ 64 ≤ c ∧ Below w.heap.size w w' := by
 have h := spectrum_any A c xs w hx (by omega)
 rw [spcS_ok he h32] at h
 refine h.mono ?_
 rintro e w' ⟨A', c', rfl, h1, h2, h3⟩
 rw [show ((spcL xs, (0 : Int)).1.length) = 64 from spcL_len xs] at h2
 exact ⟨A', c', by simp only [spcL_len], h1, h2, h3⟩
set_option maxHeartbeats 1000000 in
theorem spectra_any (A : Option Addr) (c : Nat) (xs : List Int) (w : World) (he : streamErr xs = 0) (hx : RI .i64 w A xs) (hcap : xs.length ≤ c) :
 Calls Tryz.prog 49 #[.slice A xs.length c] w fun e w' => ∃ A c, e = .returned (.tuple #[.slice A (pcN xs) c, .int .i64 0]) ∧ RLL .i64 w' A (spsL xs) ∧ Below w.heap.size w w' := by
 have hl5 := (Lagw.streamErr_zero he).1
 have hNb : pcN xs ≤ 8 := by unfold pcN; omega
 have HP := fun w hx => pieces_w A c xs w he hx hcap (by omega)
 have HS := Lib.hid (fun i A c w hx => spectrum_w A c (pcI xs i) w (pc_stream he i) (pc_small xs i) hx)
 have HPL := Lib.hid (pcs_len xs)
 have hmk := mk_slices (pcN xs) (by omega)
 clear he
 go_enter Tryz.func49, Tryz.ntmps49
 go_wp2_with fail
 refine (HP _ hx).mono ?_
 rintro _ w1 ⟨A1, c1, rfl, r1, hb1⟩
 go_wp2
 go_loopg [5, 22] (pcN xs) (fun gk e i wr => ∃ (k : Nat) (raws : List Value), k + gk = pcN xs ∧ e = .int .i64 0 ∧ i = .int .i64 k ∧ Blk wr w1.heap.size 62 (rowC raws (pcN xs)) ∧ Els .i64 (w1.heap.size + 1) wr none raws (fullL (fun i => spcL (pcI xs i)) k) ∧ Below w1.heap.size w1 wr)
 case atStart => exact ⟨0, [], by omega, rfl, rfl, Blk.new w1 62 _, Els.nil, balloc (Below.refl _ _) _⟩
 case round =>
  obtain ⟨k, raws, hk, rfl, rfl, hO, hE, hb⟩ := hrel
  have hk' : k ≤ pcN xs := by omega
  have HK := Lib.hid hk
  clear hk hmk
  have hrl : raws.length = k := by rw [hE.1, fullL_len]
  by_cases hlt : k < pcN xs
  ·obtain ⟨b1, off1, A', c', rfl, hlw1, hc1, hr, hcap1⟩ := r1.at_ (i := k) (by rw [HPL.out]; exact hlt)
   have e1 : (pcs xs)[k]'(by rw [HPL.out]; exact hlt) = pcI xs k := fullL_get _ _ _ _
   rw [e1] at hc1 hr
   have hc2 := (hb.cell (p := ⟨b1, off1 + k, none⟩) hlw1).trans hc1
   have HFS := Lib.hid (fullL_succ (fun i => spcL (pcI xs i)) k)
   have HSL := Lib.hid (spcL_len (pcI xs k))
   clear e1
   go_wp2_with fail
   refine (HS.out k _ _ _ (hr.keep hb)).mono ?_
   rintro _ w2 ⟨A2, c2, rfl, r2, hcp2, hb2⟩
   have hs1 := hO.lt
   have hO2 := hO.keep hb2
   have q0 : w2.cell? ⟨w1.heap.size, k, none⟩ = some (.slice none 0 0) := by
    rw [hO2.cell, ← hrl]
    exact rowC_at (by omega)
   have f0 := hO2.frozen k
   have hg2 := hO2.lt
   have hO3 := hO2.put k (.slice A2 64 c2)
   rw [← hrl, rowC_set (by omega), hrl] at hO3
   have hE2 := hE.keep hb2
   have hE3 : Els .i64 (w1.heap.size + 1) w2 none (raws ++ [.slice A2 64 c2]) (fullL (fun i => spcL (pcI xs i)) k ++ [spcL (pcI xs k)]) := by
    have h1 := hE2.snoc (c := c2) (r2.mono hs1) (by rw [HSL.out]; exact hcp2) (fun _ _ _ _ => by simp)
    rw [HSL.out] at h1
    exact h1
   have hE4 := Els_far hE3 (p := ⟨w1.heap.size, k, none⟩) (by simp) (.slice A2 64 c2)
   have HRL := Lib.hid hrl
   clear hE hE2 hE3 hO hrl
   go_wp2
   go_roundg (gk - 1)
   case rel => exact ⟨k + 1, _, by have := HK.out; omega, rfl, by go_num, hO3, by rw [HFS.out]; exact hE4, (bstep hb hb2).setCell (p := ⟨w1.heap.size, k, none⟩) (Nat.le_refl _) _⟩
   case measure => have := HK.out; omega
  ·obtain rfl : k = pcN xs := by omega
   rw [rowC_full hrl] at hO
   have hR := blk_RLL hO hE
   clear hrl
   go_wp2
   go_ret2
   exact ⟨_, _, rfl, hR, bstep hb1 hb⟩
end Crs
end Go.Proofs.YtelkokcnedbmeaaGreat
namespace Go.Proofs.YtelkokcnedbmeaaGreat
open Go.RowKit Num Dft
set_option maxRecDepth 20000
set_option linter.unusedVariables false
set_option linter.unusedSimpArgs false
namespace Crs
open Lol
theorem product_w (A B : Option Addr) (c d : Nat) (a b : List Int) (w : World) (ha : isSpB a = true) (hb : isSpB b = true) (hx : RI .i64 w A a) (hy : RI .i64 w B b) :
 Calls Tryz.prog 83 #[.slice A a.length c, .slice B b.length d] w fun e w' => ∃ A c, e = .returned (.tuple #[.slice A 64 c, .int .i64 0]) ∧ RIo .i64 w.heap.size w' A (prdL a b) ∧ Below w.heap.size w w' := by
 have h := product_any A B c d a b w hx hy (by rw [sp_len ha]; omega) (by rw [sp_len hb]; omega)
 rw [prd_ok ha hb] at h
 refine h.mono ?_
 rintro e w' ⟨A', c', rfl, h1, h2, h3⟩
 exact ⟨A', c', by simp only [prdL_len], h1, h3⟩
theorem pdL_zero (La Lb : List (List Int)) (b : Int) : pdL La Lb b 0 = List.replicate 64 0 := by
 refine list_ext_getD (d := 0) (by rw [pdL_len]; simp) (fun j hj => ?_)
 rw [pdL_len] at hj
 unfold pdL
 rw [fullL_getD _ _ _ _ hj, getD_lt _ _ (by simpa using hj)]
 rw [List.getElem_replicate]
 rfl
theorem pdL_skip {La Lb : List (List Int)} {b : Int} {i : Nat} (h : ¬ (0 ≤ (i : Int) + b ∧ (i : Int) + b < Lb.length)) : pdL La Lb b i = pdL La Lb b (i + 1) := by
 unfold pdL
 refine fullL_congr fun k _ => ?_
 have : pairB Lb.length b i = false := decide_eq_false h
 rw [pdF, if_neg (by rw [this]; simp)]
theorem pdF_step {La Lb : List (List Int)} {b : Int} {i j : Nat} (hj : (i : Int) + b = j) (h : j < Lb.length) (k : Nat) : pdF La Lb b k (i + 1) = (pdF La Lb b k i + prdF (La.getD i []) (Lb.getD j []) k) % 7681 := by
 have : pairB Lb.length b i = true := decide_eq_true (by omega)
 rw [pdF, if_pos this, hj, Int.toNat_natCast]
set_option maxRecDepth 20000 in
set_option maxHeartbeats 2000000 in
theorem products_any (A B : Option Addr) (c d : Nat) (La Lb : List (List Int)) (b : Int) (w : World) (hx : RLL .i64 w A La) (hy : RLL .i64 w B Lb) (hsa : ∀ i, i < La.length → isSpB (La.getD i []) = true) (hsb : ∀ i, i < Lb.length → isSpB (Lb.getD i []) = true) (hla : La.length ≤ 8) (hlb : Lb.length ≤ 8) (hb1 : -100 ≤ b) (hb2 : b ≤ 100) :
 Calls Tryz.prog 50 #[.slice A La.length c, .slice B Lb.length d, .int .i64 b] w fun e w' => ∃ A c, e = .returned (.tuple #[.slice A 64 c, .int .i64 0]) ∧ RI .i64 w' A (pdL La Lb b La.length) ∧ Below w.heap.size w w' := by
 have HSA := Lib.hid hsa
 have HSB := Lib.hid hsb
 have hmk := mk64
 have HZ := Lib.hid (pdL_zero La Lb b)
 clear hsa hsb
 go_enter Tryz.func50, Tryz.ntmps50
 go_wp2
 go_loopg [17] La.length (fun gk i wr => ∃ (k : Nat), k + gk = La.length ∧ i = .int .i64 k ∧ Blk wr w.heap.size 2 ((pdL La Lb b k).flatMap (encI .i64)).toArray ∧ Below w.heap.size w wr)
 case atStart => exact ⟨0, by omega, rfl, by rw [HZ.out]; exact Blk.new w 2 _, balloc (Below.refl _ _) _⟩
 case round =>
  obtain ⟨k, hk, rfl, hO, hb⟩ := hrel
  have hk' : k ≤ La.length := by omega
  have HK := Lib.hid hk
  clear hk hmk HZ
  have hsz := hO.lt
  by_cases hlt : k < La.length
  ·have f1 : IntKind.i64.wrap ((k : Int) + b) = (k : Int) + b := IntWalk.i64_in _ (by omega)
   rcases (show (0 ≤ (k : Int) + b ∧ (k : Int) + b < Lb.length) ∨ (k : Int) + b < 0 ∨ (0 ≤ (k : Int) + b ∧ (Lb.length : Int) ≤ (k : Int) + b) by omega) with h | h | h
   ·obtain ⟨j, hj⟩ : ∃ j : Nat, (k : Int) + b = j := ⟨((k : Int) + b).toNat, by omega⟩
    have hjl : j < Lb.length := by omega
    have f2 : IntKind.i64.wrap ((k : Int) + b) = (j : Int) := by rw [IntWalk.i64_in _ (by omega), hj]
    have d1 : decide ((j : Int) < 0) = false := decide_eq_false (by omega)
    have d2 : decide (Lb.length ≤ j) = false := decide_eq_false (by omega)
    have HST := Lib.hid (fun t => pdF_step (La := La) (Lb := Lb) (b := b) hj hjl t)
    obtain ⟨b1, off1, A1, c1, rfl, hlw1, hc1, hr1, _⟩ := hx.at_ hlt
    obtain ⟨b2, off2, A2, c2, rfl, hlw2, hc2, hr2, _⟩ := hy.at_ hjl
    have hsp1 := HSA.out k hlt
    have hsp2 := HSB.out j hjl
    rw [getD_lt _ _ hlt, getD_lt _ _ hjl] at HST
    rw [getD_lt _ _ hlt] at hsp1
    rw [getD_lt _ _ hjl] at hsp2
    have hl1 := sp_len hsp1
    have hl2 := sp_len hsp2
    have HPW := Lib.hid (fun (w : World) (hx : RI .i64 w A1 La[k]) (hy : RI .i64 w A2 Lb[j]) => product_w A1 A2 c1 c2 La[k] Lb[j] w hsp1 hsp2 hx hy)
    have HCC : Hid (∀ W, Below w.heap.size w W → W.cell? ⟨b1, off1 + k, none⟩ = some (.slice A1 La[k].length c1) ∧ W.cell? ⟨b2, off2 + j, none⟩ = some (.slice A2 Lb[j].length c2)) := Lib.hid (fun W hW => ⟨(hW.cell (p := ⟨b1, off1 + k, none⟩) hlw1).trans hc1, (hW.cell (p := ⟨b2, off2 + j, none⟩) hlw2).trans hc2⟩)
    clear hj h f1 hsp1 hsp2 hl1 hl2 hc1 hc2
    have hq := HCC.out _ hb
    have HQ := Lib.hid (HCC.out _ hb.drew)
    go_wp2
    go_region_held3 (fun W => W.cell? ⟨b1, off1 + k, none⟩ = some (.slice A1 La[k].length c1) ∧ W.cell? ⟨b2, off2 + j, none⟩ = some (.slice A2 Lb[j].length c2))
     (first | exact HQ.out | go_keep | exact HCC.out _ (bstep hb.drew hb3) | fail)
     ((go_at_call 83; (with_reducible refine (HPW.out wr.drew ((hr1.keep hb).keep (Below.drew (Below.refl _ _))) ((hr2.keep hb).keep (Below.drew (Below.refl _ _)))).mono ?_); rintro e w3 ⟨A3, c3, rfl, r3, hb3⟩))
    have hB3 : Below w.heap.size w w3 := bstep hb.drew hb3
    have r4 : RIo .i64 (w.heap.size + 1) w3 A3 (prdL La[k] Lb[j]) := r3.mono (show w.heap.size + 1 ≤ wr.heap.size from hsz)
    have hO4 : Blk w3 w.heap.size 2 ((mixL (fun t => pdF La Lb b t (k + 1)) (fun t => pdF La Lb b t k) 64 0).flatMap (encI .i64)).toArray := by
     rw [mixL_start]
     exact (hO.drew).keep hb3
    obtain ⟨gu, rfl⟩ : ∃ gu : Nat, gu = gk := ⟨_, rfl⟩
    clear hb3 hq HQ HCC HPW hO hb r3 hr1 hr2 hsz
    go_wp2
    go_loopg [51] 64 (fun gk2 i wr2 => ∃ (t : Nat), t + gk2 = 64 ∧ i = .int .i64 t ∧ Blk wr2 w.heap.size 2 ((mixL (fun t => pdF La Lb b t (k + 1)) (fun t => pdF La Lb b t k) 64 t).flatMap (encI .i64)).toArray ∧ RIo .i64 (w.heap.size + 1) wr2 A3 (prdL La[k] Lb[j]) ∧ Below w.heap.size w wr2)
    case atStart => exact ⟨0, by omega, rfl, hO4, r4, hB3⟩
    case round =>
     clear hO4 r4 hB3
     obtain ⟨t, ht, rfl, hO5, r5, hb5⟩ := hrel
     have ht' : t ≤ 64 := by omega
     have HT := Lib.hid ht
     clear ht
     by_cases hlt2 : t < 64
     ·obtain ⟨b3, off3, rfl, hlw3, hc3⟩ := r5.ri.at2 (i := t) (by rw [prdL_len]; exact hlt2)
      have e3 : (prdL La[k] Lb[j]).getD t 0 = prdF La[k] Lb[j] t := fullL_getD _ _ _ _ hlt2
      rw [e3] at hc3
      have o0 := blkI_at hO5 (j := t) (by rw [mixL_len]; exact hlt2)
      rw [mixL_at _ _ hlt2] at o0
      have of0 := hO5.frozen t
      have hgl := hO5.lt
      have bx := pdF_bd La Lb b t k
      have by' : 0 ≤ prdF La[k] Lb[j] t ∧ prdF La[k] Lb[j] t < 7681 := ⟨Int.emod_nonneg _ (by omega), Int.emod_lt_of_pos _ (by omega)⟩
      have HN := Lib.hid (HST.out t).symm
      clear e3
      generalize pdF La Lb b t k = X at *
      generalize prdF La[k] Lb[j] t = Y at *
      have HM := Lib.hid (mixL_set (fun t => pdF La Lb b t (k + 1)) (fun t => pdF La Lb b t k) 64 t ((X + Y) % 7681) HN.out)
      go_wp2
      all_goals
       go_roundg (gk - 1)
       case rel => exact ⟨t + 1, by have := HT.out; omega, by go_num, by rw [← HM.out]; exact blkI_set hO5 (by rw [mixL_len]; exact hlt2) _, r5.far (p := ⟨w.heap.size, t, none⟩) (by simp) _, hb5.setCell (p := ⟨w.heap.size, t, none⟩) (Nat.le_refl _) _⟩
       case measure => have := HT.out; omega
     ·rw [mixL_end _ _ _ _ (by omega)] at hO5
      clear HT ht' r5
      go_wp2
      go_roundg (gu - 1)
      case rel => exact ⟨k + 1, by have := HK.out; omega, by go_num, hO5, hb5⟩
      case measure => have := HK.out; omega
   ·have d1 : decide ((k : Int) + b < 0) = true := decide_eq_true h
    have HSK := Lib.hid (pdL_skip (La := La) (Lb := Lb) (b := b) (i := k) (by omega))
    go_wp2
    go_roundg (gk - 1)
    case rel => exact ⟨k + 1, by have := HK.out; omega, by go_num, by rw [← HSK.out]; exact hO, hb⟩
    case measure => have := HK.out; omega
   ·have d1 : decide ((k : Int) + b < 0) = false := decide_eq_false (by omega)
    have d2 : decide ((Lb.length : Int) ≤ (k : Int) + b) = true := decide_eq_true h.2
    have HSK := Lib.hid (pdL_skip (La := La) (Lb := Lb) (b := b) (i := k) (by omega))
    go_wp2
    go_roundg (gk - 1)
    case rel => exact ⟨k + 1, by have := HK.out; omega, by go_num, by rw [← HSK.out]; exact hO, hb⟩
    case measure => have := HK.out; omega
  ·obtain rfl : k = La.length := by omega
   go_wp2
   go_ret2
   exact ⟨_, _, rfl, blk_RI hO, hb⟩
end Crs
end Go.Proofs.YtelkokcnedbmeaaGreat
namespace Go.Proofs.YtelkokcnedbmeaaGreat
open Go.RowKit Num Dft
set_option maxRecDepth 20000
set_option linter.unusedVariables false
set_option linter.unusedSimpArgs false
namespace Crs
open Lol
def sprF (old vals : Nat → Int) (m : Nat) (b : Int) (K t : Nat) : Int := old t + S (fun k => if lagI k b = (t : Int) - m then vals k else 0) K
theorem sprF_zero (old vals : Nat → Int) (m : Nat) (b : Int) (t : Nat) : sprF old vals m b 0 t = old t := by unfold sprF; rw [S]; omega
theorem sprF_skip {old vals : Nat → Int} {m n : Nat} {b : Int} {K : Nat} (hn : n = 2 * m + 1) (h : lagI K b < -(m : Int) ∨ (m : Int) < lagI K b) : fullL (sprF old vals m b K) n = fullL (sprF old vals m b (K + 1)) n := by
 refine fullL_congr fun t ht => ?_
 unfold sprF
 rw [S, if_neg (by omega)]
 omega
theorem sprF_set {old vals : Nat → Int} {m n : Nat} {b : Int} {K t0 : Nat} (ht : t0 < n) (h : lagI K b = (t0 : Int) - m) : (fullL (sprF old vals m b K) n).set t0 (sprF old vals m b K t0 + vals K) = fullL (sprF old vals m b (K + 1)) n := by
 refine list_ext_getD (d := 0) (by simp [fullL]) (fun j hj => ?_)
 have hj' : j < n := by simpa [fullL] using hj
 rw [set_getD (by rw [fullL_len]; exact ht) (by rw [fullL_len]; exact hj'), fullL_getD _ _ _ _ hj', fullL_getD _ _ _ _ hj']
 by_cases e : t0 = j
 ·subst e
  rw [if_pos rfl]
  unfold sprF
  rw [S, if_pos h]
  omega
 ·rw [if_neg e]
  unfold sprF
  rw [S, if_neg (by omega)]
  omega
theorem sprF_bd {old vals : Nat → Int} (ho : ∀ t, -1000000 ≤ old t ∧ old t ≤ 1000000) (hv : ∀ k, -10000 ≤ vals k ∧ vals k ≤ 10000) (m : Nat) (b : Int) (K t : Nat) (hK : K ≤ 64) : -2000000 ≤ sprF old vals m b K t ∧ sprF old vals m b K t ≤ 2000000 := by
 have h := S_bd (f := fun k => if lagI k b = (t : Int) - m then vals k else 0) (n := K) (b := 10000) (fun k _ => by
  split
  ·exact hv k
  ·omega)
 have := ho t
 unfold sprF
 omega
set_option maxHeartbeats 2000000 in
theorem spread_any (g m n : Nat) (old vals : Nat → Int) (V : Option Addr) (c : Nat) (b bb : Int) (w : World) (hn : n = 2 * m + 1) (hm : m ≤ 255) (hbb : bb = 32 * b) (hb1 : -100 ≤ b) (hb2 : b ≤ 100) (ho : ∀ t, -1000000 ≤ old t ∧ old t ≤ 1000000) (hv : ∀ k, -10000 ≤ vals k ∧ vals k ≤ 10000)
 (hO : Blk w g 2 ((fullL old n).flatMap (encI .i64)).toArray) (hr : RIo .i64 (g + 1) w V (fullL vals 64)) :
 Calls Tryz.prog 52 #[.slice (some ⟨g, 0, none⟩) n n, .slice V 64 c, .int .i64 bb] w fun e w' => e = .returned (.tuple #[]) ∧ Blk w' g 2 ((fullL (sprF old vals m b 64) n).flatMap (encI .i64)).toArray ∧ Below g w w' := by
 have hq : (n : Int) / 2 = (m : Int) := by omega
 have hnb : n ≤ 511 := by omega
 have HNM := Lib.hid hn
 have HBB := Lib.hid hbb
 have HBD := Lib.hid (fun K t hK => sprF_bd ho hv m b K t hK)
 have HV := Lib.hid hv
 have hbb1 : -3200 ≤ bb := by omega
 have hbb2 : bb ≤ 3200 := by omega
 have hO0 : Blk w g 2 ((fullL (sprF old vals m b 0) n).flatMap (encI .i64)).toArray := by
  rw [fullL_congr (fun t _ => sprF_zero old vals m b t)]
  exact hO
 clear hn hbb ho hv hO
 go_enter Tryz.func52, Tryz.ntmps52
 go_wp2
 go_loopg [15] 64 (fun gk i wr => ∃ k : Nat, k + gk = 64 ∧ i = .int .i64 k ∧ Blk wr g 2 ((fullL (sprF old vals m b k) n).flatMap (encI .i64)).toArray ∧ RIo .i64 (g + 1) wr V (fullL vals 64) ∧ Below g w wr)
 case atStart => exact ⟨0, by omega, rfl, hO0, hr, Below.refl _ _⟩
 case round =>
  clear hO0 hr
  obtain ⟨k, hk, rfl, hO, hr, hb⟩ := hrel
  have hk' : k ≤ 64 := by omega
  have HK := Lib.hid hk
  clear hk
  by_cases hlt : k < 64
  ·obtain ⟨b1, off1, rfl, hlw1, hc1⟩ := hr.ri.at2 (i := k) (by rw [fullL_len]; exact hlt)
   rw [fullL_getD _ _ _ _ hlt] at hc1
   have hvb := HV.out k
   have HLI : Hid (lagI k b = if 32 ≤ k then (k : Int) + bb - 64 else (k : Int) + bb) := Lib.hid (by
    unfold lagI; rw [HBB.out])
   obtain ⟨L1, hL1⟩ : ∃ L1, L1 = (k : Int) + bb := ⟨_, rfl⟩
   have f1 : IntKind.i64.wrap ((k : Int) + bb) = L1 := by rw [IntWalk.i64_in _ (by omega), hL1]
   have hL1b : -3200 ≤ L1 ∧ L1 ≤ 3300 := by omega
   rw [← hL1] at HLI
   clear hL1
   by_cases h32 : 32 ≤ k
   ·have d0 : decide (32 ≤ k) = true := decide_eq_true h32
    have d0' : decide ((32 : Int) ≤ (k : Int)) = true := decide_eq_true (by omega)
    obtain ⟨L2, hL2⟩ : ∃ L2, L2 = L1 - 64 := ⟨_, rfl⟩
    have f2 : IntKind.i64.wrap (L1 - 64) = L2 := by rw [IntWalk.i64_in _ (by omega), hL2]
    have hL2b : -3300 ≤ L2 ∧ L2 ≤ 3300 := by omega
    have HLV := Lib.hid (show lagI k b = L2 by rw [HLI.out, if_pos h32, hL2])
    clear hL2 HLI h32
    rcases (show (-(m : Int) ≤ L2 ∧ L2 ≤ (m : Int)) ∨ L2 < -(m : Int) ∨ (-(m : Int) ≤ L2 ∧ (m : Int) < L2) by omega) with hin | hin | hin
    ·have d1 : decide (-(m : Int) ≤ L2) = true := decide_eq_true hin.1
     have d2 : decide (L2 ≤ (m : Int)) = true := decide_eq_true hin.2
     obtain ⟨t0, ht0⟩ : ∃ t0 : Nat, (t0 : Int) = L2 + (m : Int) := ⟨(L2 + (m : Int)).toNat, by omega⟩
     have f3 : IntKind.i64.wrap (L2 + (m : Int)) = (t0 : Int) := by rw [IntWalk.i64_in _ (by omega), ht0]
     have ht1 : t0 < n := by rw [HNM.out]; omega
     have HM := Lib.hid (sprF_set (old := old) (vals := vals) ht1 (show lagI k b = (t0 : Int) - m by rw [HLV.out]; omega))
     have o0 := blkI_at hO (j := t0) (by rw [fullL_len]; exact ht1)
     rw [fullL_getD _ _ _ _ ht1] at o0
     have of0 := hO.frozen t0
     have hgl := hO.lt
     have hxb := HBD.out k t0 hk'
     have ht2 : (t0 : Int) < n := by omega
     clear ht0 hin
     go_wp2
     go_roundg (gk - 1)
     case rel => exact ⟨k + 1, by have := HK.out; omega, by go_num, by rw [← HM.out]; exact blkI_set hO (by rw [fullL_len]; exact ht1) _, hr.far (p := ⟨g, t0, none⟩) (by simp) _, hb.setCell (p := ⟨g, t0, none⟩) (Nat.le_refl _) _⟩
     case measure => have := HK.out; omega
    ·have d1 : decide (-(m : Int) ≤ L2) = false := decide_eq_false (by omega)
     have HM := Lib.hid (sprF_skip (old := old) (vals := vals) (b := b) (K := k) HNM.out (by rw [HLV.out]; exact .inl hin))
     clear hin
     go_wp2
     go_roundg (gk - 1)
     case rel => exact ⟨k + 1, by have := HK.out; omega, by go_num, by rw [← HM.out]; exact hO, hr, hb⟩
     case measure => have := HK.out; omega
    ·have d1 : decide (-(m : Int) ≤ L2) = true := decide_eq_true hin.1
     have d2 : decide (L2 ≤ (m : Int)) = false := decide_eq_false (by omega)
     have HM := Lib.hid (sprF_skip (old := old) (vals := vals) (b := b) (K := k) HNM.out (by rw [HLV.out]; exact .inr hin.2))
     clear hin
     go_wp2
     go_roundg (gk - 1)
     case rel => exact ⟨k + 1, by have := HK.out; omega, by go_num, by rw [← HM.out]; exact hO, hr, hb⟩
     case measure => have := HK.out; omega
   ·have d0 : decide (32 ≤ k) = false := decide_eq_false h32
    have d0' : decide ((32 : Int) ≤ (k : Int)) = false := decide_eq_false (by omega)
    have HLV := Lib.hid (show lagI k b = L1 by rw [HLI.out, if_neg h32])
    clear HLI h32
    rcases (show (-(m : Int) ≤ L1 ∧ L1 ≤ (m : Int)) ∨ L1 < -(m : Int) ∨ (-(m : Int) ≤ L1 ∧ (m : Int) < L1) by omega) with hin | hin | hin
    ·have d1 : decide (-(m : Int) ≤ L1) = true := decide_eq_true hin.1
     have d2 : decide (L1 ≤ (m : Int)) = true := decide_eq_true hin.2
     obtain ⟨t0, ht0⟩ : ∃ t0 : Nat, (t0 : Int) = L1 + (m : Int) := ⟨(L1 + (m : Int)).toNat, by omega⟩
     have f3 : IntKind.i64.wrap (L1 + (m : Int)) = (t0 : Int) := by rw [IntWalk.i64_in _ (by omega), ht0]
     have ht1 : t0 < n := by rw [HNM.out]; omega
     have HM := Lib.hid (sprF_set (old := old) (vals := vals) ht1 (show lagI k b = (t0 : Int) - m by rw [HLV.out]; omega))
     have o0 := blkI_at hO (j := t0) (by rw [fullL_len]; exact ht1)
     rw [fullL_getD _ _ _ _ ht1] at o0
     have of0 := hO.frozen t0
     have hgl := hO.lt
     have hxb := HBD.out k t0 hk'
     have ht2 : (t0 : Int) < n := by omega
     clear ht0 hin
     go_wp2
     go_roundg (gk - 1)
     case rel => exact ⟨k + 1, by have := HK.out; omega, by go_num, by rw [← HM.out]; exact blkI_set hO (by rw [fullL_len]; exact ht1) _, hr.far (p := ⟨g, t0, none⟩) (by simp) _, hb.setCell (p := ⟨g, t0, none⟩) (Nat.le_refl _) _⟩
     case measure => have := HK.out; omega
    ·have d1 : decide (-(m : Int) ≤ L1) = false := decide_eq_false (by omega)
     have HM := Lib.hid (sprF_skip (old := old) (vals := vals) (b := b) (K := k) HNM.out (by rw [HLV.out]; exact .inl hin))
     clear hin
     go_wp2
     go_roundg (gk - 1)
     case rel => exact ⟨k + 1, by have := HK.out; omega, by go_num, by rw [← HM.out]; exact hO, hr, hb⟩
     case measure => have := HK.out; omega
    ·have d1 : decide (-(m : Int) ≤ L1) = true := decide_eq_true hin.1
     have d2 : decide (L1 ≤ (m : Int)) = false := decide_eq_false (by omega)
     have HM := Lib.hid (sprF_skip (old := old) (vals := vals) (b := b) (K := k) HNM.out (by rw [HLV.out]; exact .inr hin.2))
     clear hin
     go_wp2
     go_roundg (gk - 1)
     case rel => exact ⟨k + 1, by have := HK.out; omega, by go_num, by rw [← HM.out]; exact hO, hr, hb⟩
     case measure => have := HK.out; omega
  ·obtain rfl : k = 64 := by omega
   go_wp2
   go_end0
   exact ⟨rfl, hO, hb⟩
end Crs
end Go.Proofs.YtelkokcnedbmeaaGreat
