/-
  Parts of the proof of TopCorrelate: TpC WkA WkB.
-/
import Derived.Test.YtelkokcnedbmeaaGreatT02
import Derived.Test.YtelkokcnedbmeaaGreatT01
import Derived.StillTailTactics
import Derived.IntWalk
namespace Go.Proofs.YtelkokcnedbmeaaGreat
open Go.RowKit
set_option maxRecDepth 20000
set_option linter.unusedVariables false
set_option linter.unusedSimpArgs false
namespace Lagw
theorem info_int1 : (Tryz.prog.info? 3).map (fun i => (i.zero, i.size, i.bytes)) = some (some (.int .i64 0), 1, 8) := by kernel_rfl
def cutA (xs : List Int) (n : Nat) : List Int := xs.take n ++ List.replicate (xs.length - n) 0
def cutB (xs : List Int) (n : Nat) : List Int := List.replicate n 0 ++ xs.drop n
def cutSpec (xs : List Int) (at_ : Int) : List Int × List Int × Int :=
 if streamErr xs ≠ 0 then ([], [], streamErr xs) else if at_ < 0 ∨ (xs.length : Int) < at_ then ([], [], 2) else (cutA xs at_.toNat, cutB xs at_.toNat, 0)
theorem cut_err {xs : List Int} {a : Int} (h : ¬ streamErr xs = 0) : cutSpec xs a = ([], [], streamErr xs) := by simp [cutSpec, h]
theorem cut_arg {xs : List Int} {a : Int} (h : streamErr xs = 0) (h2 : a < 0 ∨ (xs.length : Int) < a) : cutSpec xs a = ([], [], 2) := by simp [cutSpec, h, h2]
theorem cut_ok {xs : List Int} {n : Nat} (h : streamErr xs = 0) (h2 : n ≤ xs.length) : cutSpec xs (n : Int) = (cutA xs n, cutB xs n, 0) := by
 unfold cutSpec
 rw [if_neg (by simp [h]), if_neg (by omega)]
 simp
theorem cutA_len {xs : List Int} {n : Nat} (h : n ≤ xs.length) : (cutA xs n).length = xs.length := by simp [cutA]; omega
theorem cutB_len {xs : List Int} {n : Nat} (h : n ≤ xs.length) : (cutB xs n).length = xs.length := by simp [cutB]; omega
def RetII (w : World) (r : List Int × List Int × Int) (e : Ending) (w' : World) : Prop :=
 ∃ A c B d, e = .returned (.tuple #[.slice A r.1.length c, .slice B r.2.1.length d, .int .i64 r.2.2]) ∧ RI .i64 w' A r.1 ∧ RI .i64 w' B r.2.1 ∧ Below w.heap.size w w'
theorem RetII.nil {w w' : World} {x : Int} {r : List Int × List Int × Int} (hr : r = ([], [], x)) (hb : Below w.heap.size w w') : RetII w r (.returned (.tuple #[.slice none 0 0, .slice none 0 0, .int .i64 x])) w' := by
 subst hr
 exact ⟨none, 0, none, 0, rfl, RI.nil, RI.nil, hb⟩
theorem RetII.mk {w w' : World} {a b : List Int} {n m c d : Nat} {A B : Option Addr} {r : List Int × List Int × Int} (hr : r = (a, b, 0)) (h1 : a.length = n) (h2 : b.length = m) (hA : RI .i64 w' A a) (hB : RI .i64 w' B b) (hb : Below w.heap.size w w') :
 RetII w r (.returned (.tuple #[.slice A n c, .slice B m d, .int .i64 0])) w' := by
 subst hr; subst h1; subst h2
 exact ⟨A, c, B, d, rfl, hA, hB, hb⟩
theorem cut_src1 {w : World} {b off n : Nat} {xs : List Int} {X1 : List Value} {o1 o2 : Obj} (hb : b < w.heap.size) (hcell : ∀ j, j < xs.length → w.cell? ⟨b, off + j, none⟩ = some (.int .i64 (xs.getD j 0))) (hX : X1 = (xs.take n).flatMap (encI .i64)) (hn : n ≤ xs.length) {j : Nat} {v : Value} (hv : X1[j]? = some v) :
 ((w.alloc o1).alloc o2).cell? ((⟨b, off, none⟩ : Addr).add j) = some v := by
 subst hX
 have hj : j < (xs.take n).length := by
  have := (List.getElem?_eq_some_iff.1 hv).1
  rwa [flat_len _ 1 (encI_len .i64), Nat.mul_one] at this
 have h1 := flat_get (encI .i64) 1 (encI_len .i64) (xs.take n) j 0 (by omega) hj
 rw [Nat.mul_one, Nat.add_zero, hv] at h1
 have hj2 : j < xs.length := by simp at hj; omega
 have e2 : (⟨b, off, none⟩ : Addr).add j = ⟨b, off + j, none⟩ := by unfold Addr.add; split <;> simp_all
 rw [e2, World.cell?_alloc_lt _ _ _ (by simp; omega), World.cell?_alloc_lt _ _ _ (by simpa using hb), hcell j hj2, getD_lt _ _ hj2]
 simpa [encI] using h1.symm
theorem cut_src2 {w : World} {b off n : Nat} {xs : List Int} {X2 : List Value} (hcell : ∀ j, j < xs.length → w.cell? ⟨b, off + j, none⟩ = some (.int .i64 (xs.getD j 0))) (hX : X2 = (xs.drop n).flatMap (encI .i64)) {j : Nat} {v : Value} (hv : X2[j]? = some v) :
 w.drew.cell? (((⟨b, off, none⟩ : Addr).add n).add j) = some v := by
 subst hX
 have hj : j < (xs.drop n).length := by
  have := (List.getElem?_eq_some_iff.1 hv).1
  rwa [flat_len _ 1 (encI_len .i64), Nat.mul_one] at this
 have h1 := flat_get (encI .i64) 1 (encI_len .i64) (xs.drop n) j 0 (by omega) hj
 rw [Nat.mul_one, Nat.add_zero, hv] at h1
 have hj2 : n + j < xs.length := by simp at hj; omega
 have e2 : ∀ (b off j : Nat), (⟨b, off, none⟩ : Addr).add j = ⟨b, off + j, none⟩ := by intro b off j; unfold Addr.add; split <;> simp_all
 rw [e2, e2, Nat.add_assoc]
 show w.cell? _ = _
 rw [hcell (n + j) hj2, getD_lt _ _ hj2]
 simpa [encI] using h1.symm
theorem flat_rep (n : Nat) : (List.replicate n (0 : Int)).flatMap (encI .i64) = List.replicate n (.int .i64 0) := by
 rw [flatI, List.map_replicate]
theorem cut_row1 {xs : List Int} {n : Nat} {Z X1 : List Value} (hZ : Z = (List.replicate xs.length (0 : Int)).flatMap (encI .i64)) (hX : X1 = (xs.take n).flatMap (encI .i64)) (hn : n ≤ xs.length) : splice Z 0 X1 = (cutA xs n).flatMap (encI .i64) := by
 subst hZ; subst hX
 unfold splice cutA
 rw [List.flatMap_append, flat_rep, flat_rep, flat_len _ 1 (encI_len .i64)]
 simp [Nat.min_eq_left hn]
theorem cut_row2 {xs : List Int} {n : Nat} {Z X2 : List Value} (hZ : Z = (List.replicate xs.length (0 : Int)).flatMap (encI .i64)) (hX : X2 = (xs.drop n).flatMap (encI .i64)) (hn : n ≤ xs.length) : splice Z n X2 = (cutB xs n).flatMap (encI .i64) := by
 subst hZ; subst hX
 unfold splice cutB
 rw [List.flatMap_append, flat_rep, flat_rep, flat_len _ 1 (encI_len .i64)]
 simp [Nat.min_eq_left hn]
 omega
theorem lagCut_any (A : Option Addr) (c : Nat) (xs : List Int) (at_ : Int) (w : World) (hx : RI .i64 w A xs) (hl : xs.length ≤ 140737488355328) (hc : xs.length ≤ c) :
 Calls Tryz.prog 31 #[.slice A xs.length c, .int .i64 at_] w (RetII w (cutSpec xs at_)) := by
 rcases (Decidable.em (streamErr xs = 0)).symm with he | he
 ·have e1 : (streamErr xs != 0) = true := by simp [he]
  have HE := Lib.hid he
  clear he
  go_enter Tryz.func31, Tryz.ntmps31
  go_wp2_with (go_at_call 23; refine (sampleCheck_any _ _ _ _ hx hl).mono ?_; rintro e w' ⟨rfl, rfl⟩)
  go_ret3
  exact RetII.nil (cut_err HE.out) (Below.refl _ _)
 have e1 : (streamErr xs != 0) = false := by simp [he]
 have HE := Lib.hid he
 have hl5 := (streamErr_zero he).1
 clear he
 rcases (Decidable.em (0 ≤ at_ ∧ at_ ≤ xs.length)).symm with hm | hm
 ·have hm' : at_ < 0 ∨ (0 ≤ at_ ∧ (xs.length : Int) < at_) := by omega
  have HM := Lib.hid (show at_ < 0 ∨ (xs.length : Int) < at_ by omega)
  clear hm
  rcases hm' with hm | hm
  all_goals
   go_enter Tryz.func31, Tryz.ntmps31
   go_wp2_with (go_at_call 23; refine (sampleCheck_any _ _ _ _ hx hl).mono ?_; rintro e w' ⟨rfl, rfl⟩)
   go_ret3
   exact RetII.nil (cut_arg HE.out HM.out) (Below.refl _ _)
 obtain ⟨n, rfl⟩ : ∃ n : Nat, at_ = (n : Int) := ⟨at_.toNat, by omega⟩
 have hn : n ≤ xs.length := by omega
 have dm1 : decide ((n : Int) < 0) = false := by simp
 have dm2 : decide ((xs.length : Int) < (n : Int)) = false := by simp; omega
 clear hm
 obtain ⟨i0, hi0, hz0, hz1, hz2⟩ := info_parts info_int1
 have hmk := mk_row (P := Tryz.prog) 22 3 Tryz.underlying22 hi0 hz0 hz1 hz2 (encI .i64) (encI_len .i64) (by omega) 0 rfl xs.length (by omega) (by omega)
 have hsz1 : (Tryz.prog.info? 3).map (·.size) = some 1 := by kernel_rfl
 have HS := Lib.hid hsz1
 clear hsz1
 obtain ⟨Z, hZ⟩ : ∃ Z, Z = (List.replicate xs.length (0 : Int)).flatMap (encI .i64) := ⟨_, rfl⟩
 obtain ⟨X1, hX1⟩ : ∃ X1, X1 = (xs.take n).flatMap (encI .i64) := ⟨_, rfl⟩
 obtain ⟨X2, hX2⟩ : ∃ X2, X2 = (xs.drop n).flatMap (encI .i64) := ⟨_, rfl⟩
 have lZ : Z.length = xs.length := by rw [hZ, flat_len _ 1 (encI_len .i64)]; simp
 have lX1 : X1.length = n := by rw [hX1, flat_len _ 1 (encI_len .i64)]; simp; omega
 have lX2 : X2.length = xs.length - n := by rw [hX2, flat_len _ 1 (encI_len .i64)]; simp
 rw [← hZ] at hmk
 have HZ := Lib.hid hZ
 have HX1 := Lib.hid hX1
 have HX2 := Lib.hid hX2
 have LZ := Lib.hid lZ
 have LX1 := Lib.hid lX1
 have LX2 := Lib.hid lX2
 clear hZ hX1 hX2 lZ lX1 lX2
 go_enter Tryz.func31, Tryz.ntmps31
 go_wp2_with (first
  |(go_at_call 23; refine (sampleCheck_any _ _ _ _ hx hl).mono ?_; rintro e w' ⟨rfl, rfl⟩)
  |(with_reducible refine wpList_copy_row rfl (.tmp 30) (.tmp 31) 22 22 rfl 3 Tryz.underlying22 HS.out _ _ _ _ _ _ rfl rfl w.heap.size 0 Z 3 ?d1 X1 ?d2 ?d3 ?d4 ?d5 ?_))
 case d1 => exact (Blk.new w 3 Z.toArray).alloc _
 case d2 => rw [LX1.out]; show n = min xs.length n; omega
 case d3 =>
  intro h0
  rw [LX1.out] at h0
  obtain ⟨b, off, rfl, hb, hcell⟩ := hx (by omega)
  refine ⟨_, rfl, fun j v hv => ?_⟩
  exact cut_src1 hb hcell HX1.out hn hv
 case d4 => rw [LX1.out, LZ.out]; omega
 case d5 => rw [HX1.out]; intro u hu; obtain ⟨y, _, hy⟩ := List.mem_flatMap.1 hu; exact encI_one .i64 y u hy
 intro w1 hF1 hg1
 have hB1 : Below w.heap.size w w1 := ((balloc (balloc (Below.refl _ _) (.cells Z.toArray 3)) (.cells Z.toArray 3))).grown hg1 (by simp; omega) (by intro k hk; injection hk with hk; omega)
 have hG : Blk w1 (w.heap.size + 1) 3 Z.toArray := (Blk.newAt (w := w.alloc (.cells Z.toArray 3)) 3 Z.toArray (by simp)).grown hg1 (by simp)
 clear hg1
 go_wp2_with fail
 go_still_tail 10, (by kernel_rfl)
 with_reducible refine wpList_copy_row rfl (.tmp 39) (.tmp 42) 22 22 rfl 3 Tryz.underlying22 HS.out _ _ _ _ _ _ rfl rfl (w.heap.size + 1) n Z 3 ?k1 X2 ?k2 ?k3 ?k4 ?k5 ?_
 case k1 => exact hG
 case k2 => rw [LX2.out]; show xs.length - n = min (xs.length - n) (xs.length - n); omega
 case k3 =>
  intro h0
  rw [LX2.out] at h0
  refine ⟨by rw [if_neg (by omega)], ?_⟩
  obtain ⟨b, off, rfl, hb, hcell⟩ := (hx.keep hB1) (by omega)
  refine ⟨(⟨b, off, none⟩ : Addr).add n, by rw [if_neg (by omega)]; rfl, fun j v hv => ?_⟩
  exact cut_src2 hcell HX2.out hv
 case k4 => rw [LX2.out, LZ.out]; omega
 case k5 => rw [HX2.out]; intro u hu; obtain ⟨y, _, hy⟩ := List.mem_flatMap.1 hu; exact encI_one .i64 y u hy
 intro w2 hF2 hg2
 have hB2 : Below w.heap.size w w2 := hB1.drew.grown hg2 hB1.size (by intro k hk; injection hk with hk; omega)
 have hF1' : Blk w2 w.heap.size 3 (splice Z 0 X1).toArray := (show Blk w1.drew _ _ _ from hF1).grown hg2 (by simp)
 have r1 : RI .i64 w2 (some ⟨w.heap.size, 0, none⟩) (cutA xs n) := blk_RI (e := 3) (by rw [← cut_row1 HZ.out HX1.out hn]; exact hF1')
 have r2 : RI .i64 w2 (some ⟨w.heap.size + 1, 0, none⟩) (cutB xs n) := blk_RI (e := 3) (by rw [← cut_row2 HZ.out HX2.out hn]; exact hF2)
 clear hg2 hF1 hF2 hF1' hB1 hG
 go_wp2
 all_goals
  go_ret3
  exact RetII.mk (cut_ok HE.out hn) (by have := cutA_len hn; omega) (by have := cutB_len hn; omega) r1 r2 hB2
theorem getD_out {xs : List Int} {i : Nat} (h : xs.length ≤ i) : xs.getD i 0 = 0 := by simp [List.getD_eq_getElem?_getD, List.getElem?_eq_none h]
theorem cutA_at {xs : List Int} {n i : Nat} (hn : n ≤ xs.length) : (cutA xs n).getD i 0 = if i < n then xs.getD i 0 else 0 := by
 unfold cutA
 split
 ·rename_i h
  rw [getD_lt _ _ (by simp; omega), List.getElem_append_left (by simp; omega), getD_lt _ _ (by omega)]
  simp
 ·rename_i h
  rcases Nat.lt_or_ge i xs.length with h1 | h1
  ·rw [getD_lt _ _ (by simp; omega), List.getElem_append_right (by simp; omega)]
   simp
  ·exact getD_out (by simp; omega)
theorem cutB_at {xs : List Int} {n i : Nat} (hn : n ≤ xs.length) : (cutB xs n).getD i 0 = if i < n then 0 else xs.getD i 0 := by
 unfold cutB
 split
 ·rename_i h
  rw [getD_lt _ _ (by simp; omega), List.getElem_append_left (by simp; omega)]
  simp
 ·rename_i h
  rcases Nat.lt_or_ge i xs.length with h1 | h1
  ·rw [getD_lt _ _ (by simp; omega), List.getElem_append_right (by simp; omega), getD_lt _ _ h1]
   simp only [List.length_replicate, List.getElem_drop]
   congr 1
   omega
  ·rw [getD_out h1]
   exact getD_out (by simp; omega)
theorem digit_zero : 0 ≤ digitOf 0 := by decide
theorem cutA_stream {xs : List Int} {n : Nat} (h : streamErr xs = 0) (hn : n ≤ xs.length) : streamErr (cutA xs n) = 0 := by
 refine streamErr_ok (by rw [cutA_len hn]; exact (streamErr_zero h).1) (fun x hx => ?_)
 rcases List.mem_append.1 hx with h1 | h1
 ·exact (streamErr_zero h).2 x (List.mem_of_mem_take h1)
 ·rw [(List.mem_replicate.1 h1).2]; exact digit_zero
theorem cutB_stream {xs : List Int} {n : Nat} (h : streamErr xs = 0) (hn : n ≤ xs.length) : streamErr (cutB xs n) = 0 := by
 refine streamErr_ok (by rw [cutB_len hn]; exact (streamErr_zero h).1) (fun x hx => ?_)
 rcases List.mem_append.1 hx with h1 | h1
 ·rw [(List.mem_replicate.1 h1).2]; exact digit_zero
 ·exact (streamErr_zero h).2 x (List.mem_of_mem_drop h1)
theorem cut_cells {xs ys : List Int} {n M k : Nat} (hn : n ≤ xs.length) (hk : k < 2 * M + 1) :
 (lagCells xs ys M).getD k (0, 0) = (((lagCells (cutA xs n) ys M).getD k (0, 0)).1 + ((lagCells (cutB xs n) ys M).getD k (0, 0)).1, ((lagCells (cutA xs n) ys M).getD k (0, 0)).2 + ((lagCells (cutB xs n) ys M).getD k (0, 0)).2) := by
 rw [lagCells_at hk, lagCells_at hk, lagCells_at hk, cutA_len hn, cutB_len hn]
 have key : ∀ (f g h : Nat → Nat → Int), (∀ i k, f i k = g i k + h i k) → ∀ d, pairSum f xs.length ys.length d = pairSum g xs.length ys.length d + pairSum h xs.length ys.length d := by
  intro f g h hfg d
  unfold pairSum
  rw [← sumR_add]
  refine sumR_congr fun i hi => ?_
  rw [← sumR_add]
  refine sumR_congr fun k _ => ?_
  rw [hfg i k]
  split <;> omega
 refine Prod.ext (key _ _ _ (fun i k => ?_) _) (key _ _ _ (fun i k => ?_) _)
 ·unfold prodF
  rw [cutA_at hn, cutB_at hn]
  split <;> simp
 ·unfold cntF
  rw [cutA_at hn, cutB_at hn]
  split <;> simp [nz]
end Lagw
end Go.Proofs.YtelkokcnedbmeaaGreat
namespace Go.Proofs.YtelkokcnedbmeaaGreat
open Go.RowKit
set_option maxRecDepth 20000
set_option linter.unusedVariables false
set_option linter.unusedSimpArgs false
namespace Wk
open Lagw
def cdiv (n s : Nat) : Nat := (n + s - 1) / s
theorem cdiv_lt {n s k : Nat} (hs : 1 ≤ s) : k < cdiv n s ↔ k * s < n := by
 unfold cdiv
 rw [← Nat.succ_le_iff, Nat.le_div_iff_mul_le (by omega), Nat.succ_mul]
 omega
theorem cdiv_le {n s : Nat} (hs : 1 ≤ s) : cdiv n s ≤ n := by
 rcases Nat.lt_or_ge n (cdiv n s) with h | h
 ·have h1 := (cdiv_lt hs).1 h
  have h2 := Nat.mul_le_mul_left n hs
  omega
 ·exact h
def jobErr (xs ys : List Int) (m s : Int) : Int :=
 if streamErr xs ≠ 0 then streamErr xs else if streamErr ys ≠ 0 then streamErr ys else if m < 0 ∨ 255 < m ∨ s < 1 ∨ 256 < s ∨ 64 < cdiv xs.length s.toNat then 8 else 0
theorem jobErr_x {xs ys : List Int} {m s : Int} (h : ¬ streamErr xs = 0) : jobErr xs ys m s = streamErr xs := by simp [jobErr, h]
theorem jobErr_y {xs ys : List Int} {m s : Int} (h : streamErr xs = 0) (h2 : ¬ streamErr ys = 0) : jobErr xs ys m s = streamErr ys := by simp [jobErr, h, h2]
theorem jobErr_b {xs ys : List Int} {m s : Int} (h : streamErr xs = 0) (h2 : streamErr ys = 0) (h3 : m < 0 ∨ 255 < m ∨ s < 1 ∨ 256 < s ∨ 64 < cdiv xs.length s.toNat) : jobErr xs ys m s = 8 := by
 unfold jobErr; rw [if_neg (by simp [h]), if_neg (by simp [h2]), if_pos h3]
theorem jobErr_ok {xs ys : List Int} {m s : Int} (h : streamErr xs = 0) (h2 : streamErr ys = 0) (h3 : ¬ (m < 0 ∨ 255 < m ∨ s < 1 ∨ 256 < s ∨ 64 < cdiv xs.length s.toNat)) : jobErr xs ys m s = 0 := by
 unfold jobErr; rw [if_neg (by simp [h]), if_neg (by simp [h2]), if_neg h3]
theorem jobErr_zero {xs ys : List Int} {m s : Int} (h : jobErr xs ys m s = 0) : streamErr xs = 0 ∧ streamErr ys = 0 ∧ ∃ M S : Nat, m = M ∧ s = S ∧ M ≤ 255 ∧ 1 ≤ S ∧ S ≤ 256 ∧ cdiv xs.length S ≤ 64 := by
 by_cases h1 : streamErr xs = 0
 ·by_cases h2 : streamErr ys = 0
  ·by_cases h3 : m < 0 ∨ 255 < m ∨ s < 1 ∨ 256 < s ∨ 64 < cdiv xs.length s.toNat
   ·rw [jobErr_b h1 h2 h3] at h; cases h
   ·refine ⟨h1, h2, m.toNat, s.toNat, by omega, by omega, by omega, by omega, by omega, by omega⟩
  ·rw [jobErr_y h1 h2] at h; exact absurd h h2
 ·rw [jobErr_x h1] at h; exact absurd h h1
theorem mulw {k s : Nat} (hk : k ≤ 1000) (hs : s ≤ 1000) : IntKind.i64.wrap ((k : Int) * (s : Int)) = ((k * s : Nat) : Int) := by
 have := Nat.mul_le_mul hk hs
 rw [← Int.natCast_mul, IntWalk.i64_in _ (by omega)]
theorem cdiv_int {n s : Nat} (hs : 1 ≤ s) : ((n : Int) + (s : Int) - 1) / (s : Int) = (cdiv n s : Nat) := by
 unfold cdiv
 rw [Int.natCast_ediv]
 congr 1
 omega
theorem wkblk_any (X Y : Option Addr) (n k cx cy : Nat) (m : Int) (S : Nat) (w : World) (hs : 1 ≤ S) (hs2 : S ≤ 256) (hn : n ≤ 256) :
 Calls Tryz.prog 54 #[.agg #[.slice X n cx, .slice Y k cy, .int .i64 m, .int .i64 (S : Int)]] w fun e w' => e = .returned (.int .i64 (cdiv n S : Nat)) ∧ Below w.heap.size w w' := by
 have hk := Blk.new w 26 #[.slice X n cx, .slice Y k cy, .int .i64 m, .int .i64 (S : Int)]
 have q0 : World.cell? (w.alloc (.cells #[.slice X n cx, .slice Y k cy, .int .i64 m, .int .i64 (S : Int)] 26)) ⟨w.heap.size, 0, none⟩ = some (.slice X n cx) := hk.cell 0
 have f0 := hk.frozen 0
 have q1 : World.cell? (w.alloc (.cells #[.slice X n cx, .slice Y k cy, .int .i64 m, .int .i64 (S : Int)] 26)) ⟨w.heap.size, 1, none⟩ = some (.slice Y k cy) := hk.cell 1
 have f1 := hk.frozen 1
 have q2 : World.cell? (w.alloc (.cells #[.slice X n cx, .slice Y k cy, .int .i64 m, .int .i64 (S : Int)] 26)) ⟨w.heap.size, 2, none⟩ = some (.int .i64 m) := hk.cell 2
 have f2 := hk.frozen 2
 have q3 : World.cell? (w.alloc (.cells #[.slice X n cx, .slice Y k cy, .int .i64 m, .int .i64 (S : Int)] 26)) ⟨w.heap.size, 3, none⟩ = some (.int .i64 (S : Int)) := hk.cell 3
 have f3 := hk.frozen 3
 have fl := hk.lt
 have z1 : ((S : Int) == 0) = false := by rw [beq_eq_false_iff_ne]; omega
 have z2 : ¬ ((S : Int) = 0) := by omega
 have hle := cdiv_le (n := n) hs
 have g1 : wrap64 (((n : Int) + (S : Int) - 1) / (S : Int)) = (cdiv n S : Nat) := by rw [← IntWalk.i64_left, cdiv_int hs, IntWalk.i64_in _ (by omega)]
 have g2 : IntKind.i64.wrap (((n : Int) + (S : Int) - 1) / (S : Int)) = (cdiv n S : Nat) := by rw [IntWalk.i64_left]; exact g1
 go_enter Tryz.func54, Tryz.ntmps54
 go_wp2
 go_ret
 exact ⟨ret_int (cdiv_int hs), balloc (Below.refl _ _) _⟩
theorem refCount_any (X Y : Option Addr) (n k cx cy : Nat) (m : Int) (S : Nat) (w : World) (hs : 1 ≤ S) (hs2 : S ≤ 256) (hn : n ≤ 256) :
 Calls Tryz.prog 6 #[.agg #[.slice X n cx, .slice Y k cy, .int .i64 m, .int .i64 (S : Int)]] w fun e w' => e = .returned (.int .i64 (cdiv n S : Nat)) ∧ Below w.heap.size w w' := by
 have hk := Blk.new w 26 #[.slice X n cx, .slice Y k cy, .int .i64 m, .int .i64 (S : Int)]
 have q0 : World.cell? (w.alloc (.cells #[.slice X n cx, .slice Y k cy, .int .i64 m, .int .i64 (S : Int)] 26)) ⟨w.heap.size, 0, none⟩ = some (.slice X n cx) := hk.cell 0
 have f0 := hk.frozen 0
 have q1 : World.cell? (w.alloc (.cells #[.slice X n cx, .slice Y k cy, .int .i64 m, .int .i64 (S : Int)] 26)) ⟨w.heap.size, 1, none⟩ = some (.slice Y k cy) := hk.cell 1
 have f1 := hk.frozen 1
 have q2 : World.cell? (w.alloc (.cells #[.slice X n cx, .slice Y k cy, .int .i64 m, .int .i64 (S : Int)] 26)) ⟨w.heap.size, 2, none⟩ = some (.int .i64 m) := hk.cell 2
 have f2 := hk.frozen 2
 have q3 : World.cell? (w.alloc (.cells #[.slice X n cx, .slice Y k cy, .int .i64 m, .int .i64 (S : Int)] 26)) ⟨w.heap.size, 3, none⟩ = some (.int .i64 (S : Int)) := hk.cell 3
 have f3 := hk.frozen 3
 have fl := hk.lt
 have hle := cdiv_le (n := n) hs
 have hC := Lib.hid (fun k => cdiv_lt (n := n) (k := k) hs)
 obtain ⟨C, hCe⟩ : ∃ C, C = cdiv n S := ⟨_, rfl⟩
 rw [← hCe] at hC hle ⊢
 clear hCe
 go_enter Tryz.func6, Tryz.ntmps6
 go_wp2
 go_loop [3] (fun i => ∃ k : Nat, k ≤ C ∧ i = .int .i64 k) (fun i => C - (intOf i).toNat)
 case atStart => exact ⟨0, Nat.zero_le _, rfl⟩
 case round =>
  obtain ⟨k, hk, rfl⟩ := hrel
  obtain ⟨Z, hZ⟩ : ∃ Z, Z = k * S := ⟨_, rfl⟩
  have hm := mulw (k := k) (s := S) (by omega) (by omega)
  rw [← hZ] at hm
  by_cases hlt : k < C
  ·have hz : Z < n := by rw [hZ]; exact (hC.out k).1 hlt
   clear hZ
   go_wp2
   go_round
   case rel => exact ⟨k + 1, by omega, by go_num⟩
   case measure => simp [intOf]; omega
  ·have hz : ¬ Z < n := by rw [hZ]; exact fun h => hlt ((hC.out k).2 h)
   obtain rfl : k = C := by omega
   clear hZ
   go_wp2
   go_ret
   exact ⟨rfl, balloc (Below.refl _ _) _⟩
set_option maxHeartbeats 1000000 in
theorem wkCheck_any (X Y : Option Addr) (cx cy : Nat) (xs ys : List Int) (m s : Int) (w : World) (hx : RI .i64 w X xs) (hy : RI .i64 w Y ys) (hl : xs.length ≤ 140737488355328) (hl2 : ys.length ≤ 140737488355328) :
 Calls Tryz.prog 53 #[.agg #[.slice X xs.length cx, .slice Y ys.length cy, .int .i64 m, .int .i64 s]] w fun e w' => e = .returned (.int .i64 (jobErr xs ys m s)) ∧ Below w.heap.size w w' := by
 have hk := Blk.new w 26 #[.slice X xs.length cx, .slice Y ys.length cy, .int .i64 m, .int .i64 s]
 have hbX : Below w.heap.size w (w.alloc (.cells #[.slice X xs.length cx, .slice Y ys.length cy, .int .i64 m, .int .i64 s] 26)) := balloc (Below.refl _ _) _
 have q0 : World.cell? (w.alloc (.cells #[.slice X xs.length cx, .slice Y ys.length cy, .int .i64 m, .int .i64 s] 26)) ⟨w.heap.size, 0, none⟩ = some (.slice X xs.length cx) := hk.cell 0
 have f0 := hk.frozen 0
 have q1 : World.cell? (w.alloc (.cells #[.slice X xs.length cx, .slice Y ys.length cy, .int .i64 m, .int .i64 s] 26)) ⟨w.heap.size, 1, none⟩ = some (.slice Y ys.length cy) := hk.cell 1
 have f1 := hk.frozen 1
 have q2 : World.cell? (w.alloc (.cells #[.slice X xs.length cx, .slice Y ys.length cy, .int .i64 m, .int .i64 s] 26)) ⟨w.heap.size, 2, none⟩ = some (.int .i64 m) := hk.cell 2
 have f2 := hk.frozen 2
 have q3 : World.cell? (w.alloc (.cells #[.slice X xs.length cx, .slice Y ys.length cy, .int .i64 m, .int .i64 s] 26)) ⟨w.heap.size, 3, none⟩ = some (.int .i64 s) := hk.cell 3
 have f3 := hk.frozen 3
 have fl := hk.lt
 have hxk := hx.keep hbX
 have hyk := hy.keep hbX
 rcases (Decidable.em (streamErr xs = 0)).symm with he | he
 ·have e1 : (streamErr xs != 0) = true := by simp [he]
  have HR := Lib.hid (jobErr_x (ys := ys) (m := m) (s := s) he)
  clear he
  go_enter Tryz.func53, Tryz.ntmps53
  go_wp2_with fail
  refine (sampleCheck_any _ _ _ _ hxk hl).mono ?_
  rintro _ _ ⟨rfl, rfl⟩
  go_wp2
  go_ret
  exact ⟨ret_int HR.out.symm, hbX⟩
 have e1 : (streamErr xs != 0) = false := by simp [he]
 rcases (Decidable.em (streamErr ys = 0)).symm with he2 | he2
 ·have e2 : (streamErr ys != 0) = true := by simp [he2]
  have HR := Lib.hid (jobErr_y (m := m) (s := s) he he2)
  clear he he2
  go_enter Tryz.func53, Tryz.ntmps53
  go_wp2_with fail
  refine (sampleCheck_any _ _ _ _ hxk hl).mono ?_
  rintro _ _ ⟨rfl, rfl⟩
  go_wp2_with fail
  refine (sampleCheck_any _ _ _ _ hyk hl2).mono ?_
  rintro _ _ ⟨rfl, rfl⟩
  go_wp2
  go_ret
  exact ⟨ret_int HR.out.symm, hbX⟩
 have e2 : (streamErr ys != 0) = false := by simp [he2]
 have HB := Lib.hid (fun h3 => jobErr_b (m := m) (s := s) he he2 h3)
 have HO := Lib.hid (fun h3 => jobErr_ok (m := m) (s := s) he he2 h3)
 have hl5 := (streamErr_zero he).1
 clear he he2
 by_cases h1 : m < 0
 ·go_enter Tryz.func53, Tryz.ntmps53
  go_wp2_with fail
  refine (sampleCheck_any _ _ _ _ hxk hl).mono ?_
  rintro _ _ ⟨rfl, rfl⟩
  go_wp2_with fail
  refine (sampleCheck_any _ _ _ _ hyk hl2).mono ?_
  rintro _ _ ⟨rfl, rfl⟩
  go_wp2
  go_ret
  exact ⟨ret_int (HB.out (.inl h1)).symm, hbX⟩
 by_cases h2 : 255 < m
 ·go_enter Tryz.func53, Tryz.ntmps53
  go_wp2_with fail
  refine (sampleCheck_any _ _ _ _ hxk hl).mono ?_
  rintro _ _ ⟨rfl, rfl⟩
  go_wp2_with fail
  refine (sampleCheck_any _ _ _ _ hyk hl2).mono ?_
  rintro _ _ ⟨rfl, rfl⟩
  go_wp2
  go_ret
  exact ⟨ret_int (HB.out (.inr (.inl h2))).symm, hbX⟩
 by_cases h3 : s < 1
 ·go_enter Tryz.func53, Tryz.ntmps53
  go_wp2_with fail
  refine (sampleCheck_any _ _ _ _ hxk hl).mono ?_
  rintro _ _ ⟨rfl, rfl⟩
  go_wp2_with fail
  refine (sampleCheck_any _ _ _ _ hyk hl2).mono ?_
  rintro _ _ ⟨rfl, rfl⟩
  go_wp2
  go_ret
  exact ⟨ret_int (HB.out (.inr (.inr (.inl h3)))).symm, hbX⟩
 by_cases h4 : 256 < s
 ·go_enter Tryz.func53, Tryz.ntmps53
  go_wp2_with fail
  refine (sampleCheck_any _ _ _ _ hxk hl).mono ?_
  rintro _ _ ⟨rfl, rfl⟩
  go_wp2_with fail
  refine (sampleCheck_any _ _ _ _ hyk hl2).mono ?_
  rintro _ _ ⟨rfl, rfl⟩
  go_wp2
  go_ret
  exact ⟨ret_int (HB.out (.inr (.inr (.inr (.inl h4))))).symm, hbX⟩
 obtain ⟨S, rfl⟩ : ∃ S : Nat, s = S := ⟨s.toNat, by omega⟩
 rw [Int.toNat_natCast] at HB HO
 have HC := fun w => wkblk_any X Y xs.length ys.length cx cy m S w (by omega) (by omega) hl5
 generalize cdiv xs.length S = C at HB HO HC
 have h3' : decide ((S : Int) < 1) = false := by simpa using h3
 have h4' : decide (256 < (S : Int)) = false := by simpa using h4
 by_cases h5 : 64 < C
 ·have h5' : decide (64 < (C : Int)) = true := by simp; omega
  go_enter Tryz.func53, Tryz.ntmps53
  go_wp2_with fail
  refine (sampleCheck_any _ _ _ _ hxk hl).mono ?_
  rintro _ _ ⟨rfl, rfl⟩
  go_wp2_with fail
  refine (sampleCheck_any _ _ _ _ hyk hl2).mono ?_
  rintro _ _ ⟨rfl, rfl⟩
  go_wp2_with fail
  refine (HC _).mono ?_
  rintro _ w1 ⟨rfl, hb1⟩
  go_wp2
  go_ret
  exact ⟨ret_int (HB.out (.inr (.inr (.inr (.inr h5))))).symm, bstep hbX hb1⟩
 ·have h5' : decide (64 < (C : Int)) = false := by simp; omega
  go_enter Tryz.func53, Tryz.ntmps53
  go_wp2_with fail
  refine (sampleCheck_any _ _ _ _ hxk hl).mono ?_
  rintro _ _ ⟨rfl, rfl⟩
  go_wp2_with fail
  refine (sampleCheck_any _ _ _ _ hyk hl2).mono ?_
  rintro _ _ ⟨rfl, rfl⟩
  go_wp2_with fail
  refine (HC _).mono ?_
  rintro _ w1 ⟨rfl, hb1⟩
  go_wp2
  go_ret
  exact ⟨ret_int (HO.out (by omega)).symm, bstep hbX hb1⟩
end Wk
end Go.Proofs.YtelkokcnedbmeaaGreat
namespace Go.Proofs.YtelkokcnedbmeaaGreat
open Go.RowKit
set_option maxRecDepth 20000
set_option linter.unusedVariables false
set_option linter.unusedSimpArgs false
namespace Wk
open Lagw
set_option maxHeartbeats 1000000 in
theorem refCheckJ_any (X Y : Option Addr) (cx cy : Nat) (xs ys : List Int) (m s : Int) (w : World) (hx : RI .i64 w X xs) (hy : RI .i64 w Y ys) (hl : xs.length ≤ 140737488355328) (hl2 : ys.length ≤ 140737488355328) :
 Calls Tryz.prog 5 #[.agg #[.slice X xs.length cx, .slice Y ys.length cy, .int .i64 m, .int .i64 s]] w fun e w' => e = .returned (.int .i64 (jobErr xs ys m s)) ∧ Below w.heap.size w w' := by
 have hk := Blk.new w 26 #[.slice X xs.length cx, .slice Y ys.length cy, .int .i64 m, .int .i64 s]
 have hbX : Below w.heap.size w (w.alloc (.cells #[.slice X xs.length cx, .slice Y ys.length cy, .int .i64 m, .int .i64 s] 26)) := balloc (Below.refl _ _) _
 have q0 : World.cell? (w.alloc (.cells #[.slice X xs.length cx, .slice Y ys.length cy, .int .i64 m, .int .i64 s] 26)) ⟨w.heap.size, 0, none⟩ = some (.slice X xs.length cx) := hk.cell 0
 have f0 := hk.frozen 0
 have q1 : World.cell? (w.alloc (.cells #[.slice X xs.length cx, .slice Y ys.length cy, .int .i64 m, .int .i64 s] 26)) ⟨w.heap.size, 1, none⟩ = some (.slice Y ys.length cy) := hk.cell 1
 have f1 := hk.frozen 1
 have q2 : World.cell? (w.alloc (.cells #[.slice X xs.length cx, .slice Y ys.length cy, .int .i64 m, .int .i64 s] 26)) ⟨w.heap.size, 2, none⟩ = some (.int .i64 m) := hk.cell 2
 have f2 := hk.frozen 2
 have q3 : World.cell? (w.alloc (.cells #[.slice X xs.length cx, .slice Y ys.length cy, .int .i64 m, .int .i64 s] 26)) ⟨w.heap.size, 3, none⟩ = some (.int .i64 s) := hk.cell 3
 have f3 := hk.frozen 3
 have fl := hk.lt
 have hxk := hx.keep hbX
 have hyk := hy.keep hbX
 rcases (Decidable.em (streamErr xs = 0)).symm with he | he
 ·have e1 : (streamErr xs != 0) = true := by simp [he]
  have HR := Lib.hid (jobErr_x (ys := ys) (m := m) (s := s) he)
  clear he
  go_enter Tryz.func5, Tryz.ntmps5
  go_wp2_with fail
  refine (refCheck13_any _ _ _ _ hxk hl).mono ?_
  rintro _ _ ⟨rfl, rfl⟩
  go_wp2_with fail
  refine (refCheck13_any _ _ _ _ hxk hl).mono ?_
  rintro _ _ ⟨rfl, rfl⟩
  go_wp2
  go_ret
  exact ⟨ret_int HR.out.symm, hbX⟩
 have e1 : (streamErr xs != 0) = false := by simp [he]
 rcases (Decidable.em (streamErr ys = 0)).symm with he2 | he2
 ·have e2 : (streamErr ys != 0) = true := by simp [he2]
  have HR := Lib.hid (jobErr_y (m := m) (s := s) he he2)
  clear he he2
  go_enter Tryz.func5, Tryz.ntmps5
  go_wp2_with fail
  refine (refCheck13_any _ _ _ _ hxk hl).mono ?_
  rintro _ _ ⟨rfl, rfl⟩
  go_wp2_with fail
  refine (refCheck13_any _ _ _ _ hyk hl2).mono ?_
  rintro _ _ ⟨rfl, rfl⟩
  go_wp2_with fail
  refine (refCheck13_any _ _ _ _ hyk hl2).mono ?_
  rintro _ _ ⟨rfl, rfl⟩
  go_wp2
  go_ret
  exact ⟨ret_int HR.out.symm, hbX⟩
 have e2 : (streamErr ys != 0) = false := by simp [he2]
 have HB := Lib.hid (fun h3 => jobErr_b (m := m) (s := s) he he2 h3)
 have HO := Lib.hid (fun h3 => jobErr_ok (m := m) (s := s) he he2 h3)
 have hl5 := (streamErr_zero he).1
 clear he he2
 by_cases h1 : m < 0
 ·go_enter Tryz.func5, Tryz.ntmps5
  go_wp2_with fail
  refine (refCheck13_any _ _ _ _ hxk hl).mono ?_
  rintro _ _ ⟨rfl, rfl⟩
  go_wp2_with fail
  refine (refCheck13_any _ _ _ _ hyk hl2).mono ?_
  rintro _ _ ⟨rfl, rfl⟩
  go_wp2
  go_ret
  exact ⟨ret_int (HB.out (.inl h1)).symm, hbX⟩
 by_cases h2 : 255 < m
 ·go_enter Tryz.func5, Tryz.ntmps5
  go_wp2_with fail
  refine (refCheck13_any _ _ _ _ hxk hl).mono ?_
  rintro _ _ ⟨rfl, rfl⟩
  go_wp2_with fail
  refine (refCheck13_any _ _ _ _ hyk hl2).mono ?_
  rintro _ _ ⟨rfl, rfl⟩
  go_wp2
  go_ret
  exact ⟨ret_int (HB.out (.inr (.inl h2))).symm, hbX⟩
 by_cases h3 : s < 1
 ·go_enter Tryz.func5, Tryz.ntmps5
  go_wp2_with fail
  refine (refCheck13_any _ _ _ _ hxk hl).mono ?_
  rintro _ _ ⟨rfl, rfl⟩
  go_wp2_with fail
  refine (refCheck13_any _ _ _ _ hyk hl2).mono ?_
  rintro _ _ ⟨rfl, rfl⟩
  go_wp2
  go_ret
  exact ⟨ret_int (HB.out (.inr (.inr (.inl h3)))).symm, hbX⟩
 by_cases h4 : 256 < s
 ·go_enter Tryz.func5, Tryz.ntmps5
  go_wp2_with fail
  refine (refCheck13_any _ _ _ _ hxk hl).mono ?_
  rintro _ _ ⟨rfl, rfl⟩
  go_wp2_with fail
  refine (refCheck13_any _ _ _ _ hyk hl2).mono ?_
  rintro _ _ ⟨rfl, rfl⟩
  go_wp2
  go_ret
  exact ⟨ret_int (HB.out (.inr (.inr (.inr (.inl h4))))).symm, hbX⟩
 obtain ⟨S, rfl⟩ : ∃ S : Nat, s = S := ⟨s.toNat, by omega⟩
 rw [Int.toNat_natCast] at HB HO
 have HC := fun w => refCount_any X Y xs.length ys.length cx cy m S w (by omega) (by omega) hl5
 generalize cdiv xs.length S = C at HB HO HC
 have h3' : decide ((S : Int) < 1) = false := by simpa using h3
 have h4' : decide (256 < (S : Int)) = false := by simpa using h4
 by_cases h5 : 64 < C
 ·have h5' : decide (64 < (C : Int)) = true := by simp; omega
  go_enter Tryz.func5, Tryz.ntmps5
  go_wp2_with fail
  refine (refCheck13_any _ _ _ _ hxk hl).mono ?_
  rintro _ _ ⟨rfl, rfl⟩
  go_wp2_with fail
  refine (refCheck13_any _ _ _ _ hyk hl2).mono ?_
  rintro _ _ ⟨rfl, rfl⟩
  go_wp2_with fail
  refine (HC _).mono ?_
  rintro _ w1 ⟨rfl, hb1⟩
  go_wp2
  go_ret
  exact ⟨ret_int (HB.out (.inr (.inr (.inr (.inr h5))))).symm, bstep hbX hb1⟩
 ·have h5' : decide (64 < (C : Int)) = false := by simp; omega
  go_enter Tryz.func5, Tryz.ntmps5
  go_wp2_with fail
  refine (refCheck13_any _ _ _ _ hxk hl).mono ?_
  rintro _ _ ⟨rfl, rfl⟩
  go_wp2_with fail
  refine (refCheck13_any _ _ _ _ hyk hl2).mono ?_
  rintro _ _ ⟨rfl, rfl⟩
  go_wp2_with fail
  refine (HC _).mono ?_
  rintro _ w1 ⟨rfl, hb1⟩
  go_wp2
  go_ret
  exact ⟨ret_int (HO.out (by omega)).symm, bstep hbX hb1⟩
end Wk
end Go.Proofs.YtelkokcnedbmeaaGreat
