/-
  Parts of the proof of WorkerNames: LagOfW WkA.
-/
import Derived.Test.YtdekbncpodjgnaaT01
import Derived.Deep.LoopGhost
import Derived.RegionTactic
import Derived.BigRegion
import Derived.IntWalk
namespace Go.Proofs.Ytdekbncpodjgnaa
open Go.RowKit
set_option linter.unusedVariables false
namespace Lagw
def upd (o : List (Int × Int)) (j : Nat) (v : Int) : List (Int × Int) := o.set j ((o.getD j (0, 0)).1 + v, (o.getD j (0, 0)).2 + 1)
def hits (xs ys : List Int) (m i k : Nat) : Bool := decide (xs.getD i 0 ≠ 0 ∧ ys.getD k 0 ≠ 0 ∧ i ≤ k + m ∧ k ≤ i + m)
def inSt (xs ys : List Int) (m i : Nat) (o : List (Int × Int)) : Nat → List (Int × Int)
 | 0 => o
 | k + 1 => if hits xs ys m i k then upd (inSt xs ys m i o k) (k + m - i) (xs.getD i 0 * ys.getD k 0) else inSt xs ys m i o k
def outSt (xs ys : List Int) (m : Nat) : Nat → List (Int × Int)
 | 0 => List.replicate (2 * m + 1) (0, 0)
 | i + 1 => inSt xs ys m i (outSt xs ys m i) ys.length
def lagCells (xs ys : List Int) (m : Nat) : List (Int × Int) := outSt xs ys m xs.length
def ofSpec (xs ys : List Int) (most : Int) : List (Int × Int) × Int :=
 if streamErr xs ≠ 0 then ([], streamErr xs) else if streamErr ys ≠ 0 then ([], streamErr ys) else if most < 0 ∨ 255 < most then ([], 2) else (lagCells xs ys most.toNat, 0)
theorem upd_len (o : List (Int × Int)) (j : Nat) (v : Int) : (upd o j v).length = o.length := by simp [upd]
theorem inSt_len (xs ys : List Int) (m i : Nat) (o : List (Int × Int)) (k : Nat) : (inSt xs ys m i o k).length = o.length := by
 induction k with
 | zero => rfl
 | succ k ih => unfold inSt; split <;> simp [upd_len, ih]
theorem outSt_len (xs ys : List Int) (m i : Nat) : (outSt xs ys m i).length = 2 * m + 1 := by
 induction i with
 | zero => simp [outSt]
 | succ i ih => simp [outSt, inSt_len, ih]
theorem lagCells_len (xs ys : List Int) (m : Nat) : (lagCells xs ys m).length = 2 * m + 1 := outSt_len _ _ _ _
theorem inSt_yes {xs ys : List Int} {m i k : Nat} {o : List (Int × Int)} (h : hits xs ys m i k = true) : inSt xs ys m i o (k + 1) = upd (inSt xs ys m i o k) (k + m - i) (xs.getD i 0 * ys.getD k 0) := by rw [inSt, if_pos h]
theorem inSt_no {xs ys : List Int} {m i k : Nat} {o : List (Int × Int)} (h : hits xs ys m i k = false) : inSt xs ys m i o (k + 1) = inSt xs ys m i o k := by rw [inSt, if_neg (by simp [h])]
theorem inSt_skip {xs ys : List Int} {m i : Nat} {o : List (Int × Int)} {a b : Nat} (hab : a ≤ b) (h : ∀ k, a ≤ k → k < b → hits xs ys m i k = false) : inSt xs ys m i o b = inSt xs ys m i o a := by
 induction b with
 | zero => obtain rfl : a = 0 := by omega
           rfl
 | succ b ih =>
  rcases Nat.lt_or_ge a (b + 1) with h1 | h1
  ·rw [inSt_no (h b (by omega) (by omega)), ih (by omega) (fun k h2 h3 => h k h2 (by omega))]
  ·obtain rfl : a = b + 1 := by omega
   rfl
def bdP (B : Int) (o : List (Int × Int)) : Prop := ∀ x ∈ o, -(9 * x.2) ≤ x.1 ∧ x.1 ≤ 9 * x.2 ∧ 0 ≤ x.2 ∧ x.2 ≤ B
theorem bdP_mono {B C : Int} {o : List (Int × Int)} (h : bdP B o) (hc : B ≤ C) : bdP C o := fun x hx => by have := h x hx; omega
theorem bdP_at {B : Int} {o : List (Int × Int)} {j : Nat} (h : bdP B o) (hj : j < o.length) : -(9 * (o.getD j (0, 0)).2) ≤ (o.getD j (0, 0)).1 ∧ (o.getD j (0, 0)).1 ≤ 9 * (o.getD j (0, 0)).2 ∧ 0 ≤ (o.getD j (0, 0)).2 ∧ (o.getD j (0, 0)).2 ≤ B := by
 rw [getD_lt _ _ hj]
 exact h _ (List.getElem_mem hj)
theorem bdP_upd {B : Int} {o : List (Int × Int)} {j : Nat} {v : Int} (h : bdP B o) (hB : 0 ≤ B) (h1 : -9 ≤ v) (h2 : v ≤ 9) : bdP (B + 1) (upd o j v) := by
 intro x hx
 unfold upd at hx
 rcases List.mem_or_eq_of_mem_set hx with h3 | rfl
 ·have := h x h3; omega
 ·rcases Nat.lt_or_ge j o.length with hj | hj
  ·have := bdP_at h hj
   simp only []
   omega
  ·have e : o.getD j (0, 0) = (0, 0) := by simp [List.getD_eq_getElem?_getD, List.getElem?_eq_none hj]
   rw [e]
   simp only []
   omega
theorem sample_bd {x : Int} (h : 0 ≤ digitOf x) : x = 0 ∨ x = -3 ∨ x = -1 ∨ x = 1 ∨ x = 3 := by
 unfold digitOf at h
 repeat' split at h
 all_goals omega
theorem streamErr_zero {xs : List Int} (h : streamErr xs = 0) : xs.length ≤ 256 ∧ ∀ x ∈ xs, 0 ≤ digitOf x := by
 unfold streamErr at h
 split at h
 ·omega
 ·split at h
  ·rename_i h1 h2
   exact ⟨by omega, by simpa using h2⟩
  ·omega
theorem stream_at {xs : List Int} (h : streamErr xs = 0) (i : Nat) : xs.getD i 0 = 0 ∨ xs.getD i 0 = -3 ∨ xs.getD i 0 = -1 ∨ xs.getD i 0 = 1 ∨ xs.getD i 0 = 3 := by
 rcases Nat.lt_or_ge i xs.length with h1 | h1
 ·rw [getD_lt _ _ h1]
  exact sample_bd ((streamErr_zero h).2 _ (List.getElem_mem h1))
 ·left; simp [List.getD_eq_getElem?_getD, List.getElem?_eq_none h1]
theorem prod_bd {x y : Int} (hx : x = 0 ∨ x = -3 ∨ x = -1 ∨ x = 1 ∨ x = 3) (hy : y = 0 ∨ y = -3 ∨ y = -1 ∨ y = 1 ∨ y = 3) : -9 ≤ x * y ∧ x * y ≤ 9 := by
 rcases hx with rfl | rfl | rfl | rfl | rfl <;> rcases hy with rfl | rfl | rfl | rfl | rfl <;> decide
theorem inSt_bd {xs ys : List Int} (hx : streamErr xs = 0) (hy : streamErr ys = 0) {m i : Nat} {B : Int} {o : List (Int × Int)} (h : bdP B o) (hB : 0 ≤ B) (k : Nat) : bdP (B + k) (inSt xs ys m i o k) := by
 induction k with
 | zero => simpa [inSt] using h
 | succ k ih =>
  unfold inSt
  split
  ·have := bdP_upd (j := k + m - i) ih (by omega) (prod_bd (stream_at hx i) (stream_at hy k)).1 (prod_bd (stream_at hx i) (stream_at hy k)).2
   exact bdP_mono this (by omega)
  ·exact bdP_mono ih (by omega)
theorem outSt_bd {xs ys : List Int} (hx : streamErr xs = 0) (hy : streamErr ys = 0) (m : Nat) (i : Nat) : bdP (256 * i) (outSt xs ys m i) := by
 induction i with
 | zero =>
  intro x h
  simp [outSt] at h
  subst h
  simp
 | succ i ih =>
  have := inSt_bd hx hy (m := m) (i := i) ih (by omega) ys.length
  have hl := (streamErr_zero hy).1
  exact bdP_mono this (by omega)
theorem ofSpec_x {xs ys : List Int} {most : Int} (h : ¬ streamErr xs = 0) : ofSpec xs ys most = ([], streamErr xs) := by simp [ofSpec, h]
theorem ofSpec_y {xs ys : List Int} {most : Int} (h0 : streamErr xs = 0) (h : ¬ streamErr ys = 0) : ofSpec xs ys most = ([], streamErr ys) := by simp [ofSpec, h0, h]
theorem ofSpec_m {xs ys : List Int} {most : Int} (h0 : streamErr xs = 0) (h : streamErr ys = 0) (hm : most < 0 ∨ 255 < most) : ofSpec xs ys most = ([], 2) := by simp [ofSpec, h0, h, hm]
theorem ofSpec_ok {xs ys : List Int} {m : Nat} (h0 : streamErr xs = 0) (h : streamErr ys = 0) (hm : m ≤ 255) : ofSpec xs ys (m : Int) = (lagCells xs ys m, 0) := by
 have : ¬ ((m : Int) < 0 ∨ 255 < (m : Int)) := by omega
 simp [ofSpec, h0, h, this]
theorem hits_x {xs ys : List Int} {m i k : Nat} (h : xs.getD i 0 = 0) : hits xs ys m i k = false := by
 simp only [hits, decide_eq_false_iff_not]; exact fun h2 => h2.1 h
theorem hits_y {xs ys : List Int} {m i k : Nat} (h : ys.getD k 0 = 0) : hits xs ys m i k = false := by
 simp only [hits, decide_eq_false_iff_not]; exact fun h2 => h2.2.1 h
theorem hits_far {xs ys : List Int} {m i k : Nat} (h : k + m < i ∨ i + m < k) : hits xs ys m i k = false := by
 simp only [hits, decide_eq_false_iff_not]; omega
theorem hits_yes {xs ys : List Int} {m i k : Nat} (h1 : ¬ xs.getD i 0 = 0) (h2 : ¬ ys.getD k 0 = 0) (h3 : i ≤ k + m) (h4 : k ≤ i + m) : hits xs ys m i k = true := by
 simp only [hits, decide_eq_true_eq]; exact ⟨h1, h2, h3, h4⟩
theorem inSt_fin {xs ys : List Int} {m i : Nat} {o : List (Int × Int)} {a : Nat} (h : ys.length ≤ a ∨ i + m < a) : inSt xs ys m i o a = inSt xs ys m i o ys.length := by
 rcases Nat.lt_or_ge a ys.length with h1 | h1
 ·exact (inSt_skip (by omega) (fun k h2 _ => hits_far (.inr (by omega)))).symm
 ·exact inSt_skip h1 (fun k h2 _ => hits_y (by simp [List.getD_eq_getElem?_getD, List.getElem?_eq_none h2]))
def nz (x : Int) : Int := if x = 0 then 0 else 1
def pairSum (f : Nat → Nat → Int) (n m : Nat) (d : Int) : Int := sumR (fun i => sumR (fun k => if (k : Int) - i = d then f i k else 0) m) n
def prodF (xs ys : List Int) (i k : Nat) : Int := xs.getD i 0 * ys.getD k 0
def cntF (xs ys : List Int) (i k : Nat) : Int := nz (xs.getD i 0) * nz (ys.getD k 0)
theorem upd_at {o : List (Int × Int)} {j t : Nat} {v : Int} (hj : j < o.length) (ht : t < o.length) : (upd o j v).getD t (0, 0) = if t = j then ((o.getD t (0, 0)).1 + v, (o.getD t (0, 0)).2 + 1) else o.getD t (0, 0) := by
 unfold upd
 rw [getD_lt _ _ (by simpa using ht), List.getElem_set]
 split
 ·rename_i h; subst h; simp
 ·rename_i h
  rw [if_neg (fun h2 => h h2.symm), getD_lt _ _ ht]
theorem hits_prod {xs ys : List Int} {m i k : Nat} (h : hits xs ys m i k = true) : cntF xs ys i k = 1 ∧ i ≤ k + m ∧ k ≤ i + m := by
 simp only [hits, decide_eq_true_eq] at h
 obtain ⟨h1, h2, h3, h4⟩ := h
 exact ⟨by simp [cntF, nz, -List.getD_eq_getElem?_getD, h1, h2], h3, h4⟩
theorem hits_none {xs ys : List Int} {m i k : Nat} (h : hits xs ys m i k = false) (h3 : i ≤ k + m) (h4 : k ≤ i + m) : prodF xs ys i k = 0 ∧ cntF xs ys i k = 0 := by
 simp only [hits, decide_eq_false_iff_not] at h
 rcases Decidable.em (xs.getD i 0 = 0) with h1 | h1
 ·simp [prodF, cntF, nz, -List.getD_eq_getElem?_getD, h1]
 ·rcases Decidable.em (ys.getD k 0 = 0) with h2 | h2
  ·simp [prodF, cntF, nz, -List.getD_eq_getElem?_getD, h2]
  ·exact absurd ⟨h1, h2, h3, h4⟩ h
theorem inSt_at {xs ys : List Int} {m i : Nat} {o : List (Int × Int)} (ho : o.length = 2 * m + 1) (k t : Nat) (ht : t < 2 * m + 1) :
 (inSt xs ys m i o k).getD t (0, 0) = ((o.getD t (0, 0)).1 + sumR (fun k => if (k : Int) - i = (t : Int) - m then prodF xs ys i k else 0) k, (o.getD t (0, 0)).2 + sumR (fun k => if (k : Int) - i = (t : Int) - m then cntF xs ys i k else 0) k) := by
 induction k with
 | zero => simp [inSt, sumR]
 | succ k ih =>
  rw [sumR_succ, sumR_succ]
  cases h : hits xs ys m i k with
  | true =>
   obtain ⟨h1, h2, h3⟩ := hits_prod h
   have hl : (inSt xs ys m i o k).length = 2 * m + 1 := by rw [inSt_len, ho]
   rw [inSt_yes h, upd_at (by rw [hl]; omega) (by rw [hl]; exact ht), ih]
   by_cases e : t = k + m - i
   ·rw [if_pos e, if_pos (by omega), if_pos (by omega), h1]
    simp only [prodF, Int.add_assoc]
   ·rw [if_neg e, if_neg (by omega), if_neg (by omega)]
    simp
  | false =>
   rw [inSt_no h, ih]
   by_cases e : (k : Int) - i = (t : Int) - m
   ·obtain ⟨h1, h2⟩ := hits_none h (by omega) (by omega)
    rw [if_pos e, if_pos e, h1, h2]
    simp
   ·rw [if_neg e, if_neg e]
    simp
theorem outSt_at {xs ys : List Int} {m : Nat} (i t : Nat) (ht : t < 2 * m + 1) :
 (outSt xs ys m i).getD t (0, 0) = (pairSum (prodF xs ys) i ys.length ((t : Int) - m), pairSum (cntF xs ys) i ys.length ((t : Int) - m)) := by
 induction i with
 | zero =>
  rw [outSt, getD_lt _ _ (by simpa using ht)]
  simp [pairSum, sumR]
 | succ i ih =>
  rw [outSt, inSt_at (outSt_len _ _ _ _) _ _ ht, ih]
  rfl
theorem lagCells_at {xs ys : List Int} {m t : Nat} (ht : t < 2 * m + 1) :
 (lagCells xs ys m).getD t (0, 0) = (pairSum (prodF xs ys) xs.length ys.length ((t : Int) - m), pairSum (cntF xs ys) xs.length ys.length ((t : Int) - m)) := outSt_at _ _ ht
theorem inner_one {f : Nat → Int} {n i : Nat} {d : Int} : sumR (fun k => if (k : Int) - i = d then f k else 0) n = if 0 ≤ (i : Int) + d ∧ (i : Int) + d < n then f ((i : Int) + d).toNat else 0 := by
 by_cases h : 0 ≤ (i : Int) + d ∧ (i : Int) + d < n
 ·rw [if_pos h, sumR_one (k := ((i : Int) + d).toNat) (by omega) (fun k hk hne => if_neg (by omega)), if_pos (by omega)]
 ·rw [if_neg h]
  exact sumR_zero (fun k hk => if_neg (by omega))
theorem info_lag : (Try.prog.info? 75).map (fun i => (i.zero, i.size, i.bytes)) = some (some (.agg #[.int .i64 0, .int .i64 0]), 2, 16) := by kernel_rfl
set_option maxRecDepth 100000 in
set_option maxHeartbeats 4000000 in
theorem lagOf_any (A B : Option Addr) (c d : Nat) (xs ys : List Int) (most : Int) (w : World) (hx : RI .i64 w A xs) (hy : RI .i64 w B ys) (hl : xs.length ≤ 140737488355328) (hl2 : ys.length ≤ 140737488355328) :
 Calls Try.prog 32 #[.slice A xs.length c, .slice B ys.length d, .int .i64 most] w (RetQ 75 w (ofSpec xs ys most)) := by
 rcases (Decidable.em (streamErr xs = 0)).symm with he | he
 ·have e1 : (streamErr xs != 0) = true := by simp [he]
  have HE := Lib.hid he
  clear he
  go_enter Try.func32, Try.ntmps32
  go_wp2_with (go_at_call 46; refine (sampleCheck_any _ _ _ _ hx hl).mono ?_; rintro e w' ⟨rfl, rfl⟩)
  go_ret2
  exact RetQ.nil (ofSpec_x HE.out) (Below.refl _ _)
 have e1 : (streamErr xs != 0) = false := by simp [he]
 have HE := Lib.hid he
 have hl5 := (streamErr_zero he).1
 clear he
 rcases (Decidable.em (streamErr ys = 0)).symm with he | he
 ·have e2 : (streamErr ys != 0) = true := by simp [he]
  have HE2 := Lib.hid he
  clear he
  go_enter Try.func32, Try.ntmps32
  go_wp2_with fail
  refine (sampleCheck_any _ _ _ _ hx hl).mono ?_
  rintro e w' ⟨rfl, rfl⟩
  go_wp2_with fail
  refine (sampleCheck_any _ _ _ _ hy hl2).mono ?_
  rintro e w' ⟨rfl, rfl⟩
  go_wp2
  go_ret2
  exact RetQ.nil (ofSpec_y HE.out HE2.out) (Below.refl _ _)
 have e2 : (streamErr ys != 0) = false := by simp [he]
 have HE2 := Lib.hid he
 have hl6 := (streamErr_zero he).1
 clear he
 rcases (Decidable.em (most < 0)) with hm | hm
 ·go_enter Try.func32, Try.ntmps32
  go_wp2_with fail
  refine (sampleCheck_any _ _ _ _ hx hl).mono ?_
  rintro e w' ⟨rfl, rfl⟩
  go_wp2_with fail
  refine (sampleCheck_any _ _ _ _ hy hl2).mono ?_
  rintro e w' ⟨rfl, rfl⟩
  go_wp2
  go_ret2
  exact RetQ.nil (ofSpec_m HE.out HE2.out (.inl hm)) (Below.refl _ _)
 rcases (Decidable.em (255 < most)) with hm2 | hm2
 ·go_enter Try.func32, Try.ntmps32
  go_wp2_with fail
  refine (sampleCheck_any _ _ _ _ hx hl).mono ?_
  rintro e w' ⟨rfl, rfl⟩
  go_wp2_with fail
  refine (sampleCheck_any _ _ _ _ hy hl2).mono ?_
  rintro e w' ⟨rfl, rfl⟩
  go_wp2
  go_ret2
  exact RetQ.nil (ofSpec_m HE.out HE2.out (.inr hm2)) (Below.refl _ _)
 obtain ⟨m, rfl⟩ : ∃ m : Nat, most = (m : Int) := ⟨most.toNat, by omega⟩
 have hm255 : m ≤ 255 := by omega
 have dm1 : decide ((m : Int) < 0) = false := by simp
 have dm2 : decide (255 < (m : Int)) = false := by simpa using hm2
 clear hm hm2
 obtain ⟨i0, hi0, hz0, hz1, hz2⟩ := info_parts info_lag
 have hmk := mk_row (P := Try.prog) 31 75 Try.underlying31 hi0 hz0 hz1 hz2 encP encP_len (by omega) (0, 0) rfl (2 * m + 1) (by omega) (by omega)
 have ec : ((2 * m + 1 : Nat) : Int) = 2 * (m : Int) + 1 := by omega
 rw [ec] at hmk
 clear ec
 go_enter Try.func32, Try.ntmps32
 go_wp2_with fail
 refine (sampleCheck_any _ _ _ _ hx hl).mono ?_
 rintro e w' ⟨rfl, rfl⟩
 go_wp2_with fail
 refine (sampleCheck_any _ _ _ _ hy hl2).mono ?_
 rintro e w' ⟨rfl, rfl⟩
 go_wp2
 go_loopg [11, 12, 35] xs.length (fun gk _ _ i wr => ∃ k : Nat, k + gk = xs.length ∧ i = .int .i64 k ∧ Blk wr w.heap.size 75 ((outSt xs ys m k).flatMap encP).toArray ∧ Below w.heap.size w wr)
 case atStart => exact ⟨0, by omega, rfl, Blk.new w 75 _, balloc (Below.refl _ _) _⟩
 case round =>
  obtain ⟨k, hk, rfl, hO, hb⟩ := hrel
  have hk' : k ≤ xs.length := by omega
  have HK := Lib.hid hk
  clear hk
  by_cases hlt : k < xs.length
  ·obtain ⟨b1, off1, rfl, hlw1, hcw⟩ := hx.at2 hlt
   rw [getD_lt _ _ hlt] at hcw
   have hc := (hb.cell (p := ⟨b1, off1 + k, none⟩) hlw1).trans hcw
   by_cases hz : xs[k] = 0
   ·have ez : (xs[k] == 0) = true := by simp [hz]
    have HZ := Lib.hid hz
    clear hz
    go_wp2
    go_roundg (gk - 1)
    case rel => exact ⟨k + 1, by have := HK.out; omega, by go_num, by rw [outSt, inSt_skip (a := 0) (Nat.zero_le _) (fun j _ _ => hits_x (by rw [getD_lt _ _ hlt]; exact HZ.out)), inSt]; exact hO, hb⟩
    case measure => have := HK.out; omega
   ·have ez : (xs[k] == 0) = false := by simp [hz]
    have HZ := Lib.hid hz
    clear hz
    obtain ⟨wo, rfl⟩ : ∃ wo : World, wo = wr := ⟨_, rfl⟩
    obtain ⟨gu, rfl⟩ : ∃ gu : Nat, gu = gk := ⟨_, rfl⟩
    have hyo := hy.keep hb
    go_wp2
    all_goals
     go_loopg [12] (600 - (k - m)) (fun ga s12 wq => ∃ a : Nat, a + ga = 600 ∧ a ≤ 256 ∧ s12 = .int .i64 a ∧ k - m ≤ a ∧ Blk wq w.heap.size 75 ((inSt xs ys m k (outSt xs ys m k) a).flatMap encP).toArray ∧ Below w.heap.size w wq)
     case atStart =>
      refine ⟨k - m, by omega, by omega, by first | rfl | go_num | (congr 1; omega), Nat.le_refl _, ?_, hb⟩
      rw [inSt_skip (a := 0) (Nat.zero_le _) (fun j _ h => hits_far (.inl (by omega))), inSt]
      exact hO
     case round =>
      obtain ⟨a, ha, ha256, rfl, hka, hI, hbq⟩ := hrel
      have HA := Lib.hid ha
      clear ha
      by_cases hin : a < ys.length ∧ a ≤ k + m
      ·obtain ⟨hay, hakm⟩ := hin
       obtain ⟨b2, off2, rfl, hd⟩ := (hy.keep hbq).at_ hay
       rw [getD_lt _ _ hay] at hd
       have hc' := (hbq.cell (p := ⟨b1, off1 + k, none⟩) hlw1).trans hcw
       by_cases hyz : ys[a] = 0
       ·have ey : (ys[a] != 0) = false := by simp [hyz]
        have HY := Lib.hid hyz
        clear hyz
        go_wp2
        all_goals
         go_roundg (gk - 1)
         case rel => exact ⟨a + 1, by have := HA.out; omega, by omega, by go_num, by omega, by rw [inSt_no (hits_y (by rw [getD_lt _ _ hay]; exact HY.out))]; exact hI, hbq⟩
         case measure => have := HA.out; omega
       ·have ey : (ys[a] != 0) = true := by simp [hyz]
        have HY := Lib.hid hyz
        clear hyz
        have hJ : ((a : Int) - k + m).toNat < (inSt xs ys m k (outSt xs ys m k) a).length := by rw [inSt_len, outSt_len]; omega
        obtain ⟨o0, o1⟩ := blkP_at hI hJ
        have p0 := hI.frozen (((a : Int) - k + m).toNat * 2)
        have p1 := hI.frozen (((a : Int) - k + m).toNat * 2 + 1)
        have hg := hI.lt
        have hbd := bdP_at (inSt_bd HE.out HE2.out (outSt_bd HE.out HE2.out m k) (by omega) a) hJ
        have hpr := prod_bd (stream_at HE.out k) (stream_at HE2.out a)
        rw [getD_lt _ _ hlt, getD_lt _ _ hay] at hpr
        have hI2 := (blkP_set hI hJ (((inSt xs ys m k (outSt xs ys m k) a).getD ((a : Int) - k + m).toNat (0, 0)).1 + xs[k] * ys[a], ((inSt xs ys m k (outSt xs ys m k) a).getD ((a : Int) - k + m).toNat (0, 0)).2 + 1)).drew
        have eJ : ((a : Int) - k + m).toNat = a + m - k := by omega
        have hn := inSt_yes (o := outSt xs ys m k) (hits_yes (m := m) (by rw [getD_lt _ _ hlt]; exact HZ.out) (by rw [getD_lt _ _ hay]; exact HY.out) (show k ≤ a + m by omega) hakm)
        unfold upd at hn
        rw [← eJ, getD_lt xs _ hlt, getD_lt ys _ hay] at hn
        rw [← hn] at hI2
        have HN := Lib.hid hn
        have EJ := Lib.hid eJ
        have HI2 := Lib.hid hI2
        clear hn eJ hI2
        obtain ⟨pr, hpe⟩ : ∃ pr, pr = (inSt xs ys m k (outSt xs ys m k) a).getD ((a : Int) - k + m).toNat (0, 0) := ⟨_, rfl⟩
        rw [← hpe] at o0 o1 hbd
        have HPE := Lib.hid hpe
        clear hpe
        go_wp2
        all_goals
         go_region
         all_goals go_wp2
         all_goals
          go_roundg (gk - 1)
          case rel => exact ⟨a + 1, by have := HA.out; omega, by omega, by go_num, by omega, by have h := HI2.out; rw [← HPE.out] at h; exact h, ((hbq.setCell (p := ⟨w.heap.size, ((a : Int) - k + m).toNat * 2, none⟩) (Nat.le_refl _) _).setCell (p := ⟨w.heap.size, ((a : Int) - k + m).toNat * 2 + 1, none⟩) (Nat.le_refl _) _).drew⟩
          case measure => have := HA.out; omega
      ·have hfin : ys.length ≤ a ∨ k + m < a := by omega
       go_wp2
       all_goals
        go_roundg (gu - 1)
        case rel => exact ⟨k + 1, by have := HK.out; omega, by go_num, by rw [outSt, ← inSt_fin hfin]; exact hI, hbq⟩
        case measure => have := HK.out; omega
  ·go_wp2
   go_ret2
   have hkl : k = xs.length := by omega
   rw [hkl] at hO
   exact RetQ.blk (ofSpec_ok HE.out HE2.out hm255) (lagCells_len _ _ _) (by unfold maxLen; omega) hO (Nat.le_refl _) hb
end Lagw
end Go.Proofs.Ytdekbncpodjgnaa
namespace Go.Proofs.Ytdekbncpodjgnaa
open Go.RowKit
set_option linter.unusedVariables false
set_option linter.unusedSimpArgs false
namespace Wk
open Lagw
def cdiv (n s : Nat) : Nat := (n + s - 1) / s
theorem cdiv_lt {n s k : Nat} (hs : 1 ≤ s) : k < cdiv n s ↔ k * s < n := by
 unfold cdiv
 rw [← Nat.succ_le_iff, Nat.le_div_iff_mul_le (by omega), Nat.succ_mul]
 omega
theorem cdiv_le {n s : Nat} (hs : 1 ≤ s) : cdiv n s ≤ n := by
 rcases Nat.lt_or_ge n (cdiv n s) with h | h
 ·have h1 := (cdiv_lt hs).1 h
  have h2 := Nat.mul_le_mul_left n hs
  omega
 ·exact h
def jobErr (xs ys : List Int) (m s : Int) : Int :=
 if streamErr xs ≠ 0 then streamErr xs else if streamErr ys ≠ 0 then streamErr ys else if m < 0 ∨ 255 < m ∨ s < 1 ∨ 256 < s ∨ 64 < cdiv xs.length s.toNat then 8 else 0
def blocksS (xs ys : List Int) (m s : Int) : Int × Int := if jobErr xs ys m s ≠ 0 then (0, jobErr xs ys m s) else (cdiv xs.length s.toNat, 0)
theorem jobErr_x {xs ys : List Int} {m s : Int} (h : ¬ streamErr xs = 0) : jobErr xs ys m s = streamErr xs := by simp [jobErr, h]
theorem jobErr_y {xs ys : List Int} {m s : Int} (h : streamErr xs = 0) (h2 : ¬ streamErr ys = 0) : jobErr xs ys m s = streamErr ys := by simp [jobErr, h, h2]
theorem jobErr_b {xs ys : List Int} {m s : Int} (h : streamErr xs = 0) (h2 : streamErr ys = 0) (h3 : m < 0 ∨ 255 < m ∨ s < 1 ∨ 256 < s ∨ 64 < cdiv xs.length s.toNat) : jobErr xs ys m s = 8 := by
 unfold jobErr; rw [if_neg (by simp [h]), if_neg (by simp [h2]), if_pos h3]
theorem jobErr_ok {xs ys : List Int} {m s : Int} (h : streamErr xs = 0) (h2 : streamErr ys = 0) (h3 : ¬ (m < 0 ∨ 255 < m ∨ s < 1 ∨ 256 < s ∨ 64 < cdiv xs.length s.toNat)) : jobErr xs ys m s = 0 := by
 unfold jobErr; rw [if_neg (by simp [h]), if_neg (by simp [h2]), if_neg h3]
theorem jobErr_zero {xs ys : List Int} {m s : Int} (h : jobErr xs ys m s = 0) : streamErr xs = 0 ∧ streamErr ys = 0 ∧ ∃ M S : Nat, m = M ∧ s = S ∧ M ≤ 255 ∧ 1 ≤ S ∧ S ≤ 256 ∧ cdiv xs.length S ≤ 64 := by
 by_cases h1 : streamErr xs = 0
 ·by_cases h2 : streamErr ys = 0
  ·by_cases h3 : m < 0 ∨ 255 < m ∨ s < 1 ∨ 256 < s ∨ 64 < cdiv xs.length s.toNat
   ·rw [jobErr_b h1 h2 h3] at h; cases h
   ·refine ⟨h1, h2, m.toNat, s.toNat, by omega, by omega, by omega, by omega, by omega, by omega⟩
  ·rw [jobErr_y h1 h2] at h; exact absurd h h2
 ·rw [jobErr_x h1] at h; exact absurd h h1
theorem mulw {k s : Nat} (hk : k ≤ 1000) (hs : s ≤ 1000) : IntKind.i64.wrap ((k : Int) * (s : Int)) = ((k * s : Nat) : Int) := by
 have := Nat.mul_le_mul hk hs
 rw [← Int.natCast_mul, IntWalk.i64_in _ (by omega)]
theorem cdiv_int {n s : Nat} (hs : 1 ≤ s) : ((n : Int) + (s : Int) - 1) / (s : Int) = (cdiv n s : Nat) := by
 unfold cdiv
 rw [Int.natCast_ediv]
 congr 1
 omega
theorem wkblk_any (X Y : Option Addr) (n k cx cy : Nat) (m : Int) (S : Nat) (w : World) (hs : 1 ≤ S) (hs2 : S ≤ 256) (hn : n ≤ 256) :
 Calls Try.prog 39 #[.agg #[.slice X n cx, .slice Y k cy, .int .i64 m, .int .i64 (S : Int)]] w fun e w' => e = .returned (.int .i64 (cdiv n S : Nat)) ∧ Below w.heap.size w w' := by
 have hk := Blk.new w 24 #[.slice X n cx, .slice Y k cy, .int .i64 m, .int .i64 (S : Int)]
 have q0 : World.cell? (w.alloc (.cells #[.slice X n cx, .slice Y k cy, .int .i64 m, .int .i64 (S : Int)] 24)) ⟨w.heap.size, 0, none⟩ = some (.slice X n cx) := hk.cell 0
 have f0 := hk.frozen 0
 have q1 : World.cell? (w.alloc (.cells #[.slice X n cx, .slice Y k cy, .int .i64 m, .int .i64 (S : Int)] 24)) ⟨w.heap.size, 1, none⟩ = some (.slice Y k cy) := hk.cell 1
 have f1 := hk.frozen 1
 have q2 : World.cell? (w.alloc (.cells #[.slice X n cx, .slice Y k cy, .int .i64 m, .int .i64 (S : Int)] 24)) ⟨w.heap.size, 2, none⟩ = some (.int .i64 m) := hk.cell 2
 have f2 := hk.frozen 2
 have q3 : World.cell? (w.alloc (.cells #[.slice X n cx, .slice Y k cy, .int .i64 m, .int .i64 (S : Int)] 24)) ⟨w.heap.size, 3, none⟩ = some (.int .i64 (S : Int)) := hk.cell 3
 have f3 := hk.frozen 3
 have fl := hk.lt
 have z1 : ((S : Int) == 0) = false := by rw [beq_eq_false_iff_ne]; omega
 have z2 : ¬ ((S : Int) = 0) := by omega
 have hle := cdiv_le (n := n) hs
 have g1 : wrap64 (((n : Int) + (S : Int) - 1) / (S : Int)) = (cdiv n S : Nat) := by rw [← IntWalk.i64_left, cdiv_int hs, IntWalk.i64_in _ (by omega)]
 have g2 : IntKind.i64.wrap (((n : Int) + (S : Int) - 1) / (S : Int)) = (cdiv n S : Nat) := by rw [IntWalk.i64_left]; exact g1
 go_enter Try.func39, Try.ntmps39
 go_wp2
 go_ret
 exact ⟨ret_int (cdiv_int hs), balloc (Below.refl _ _) _⟩
theorem refCount_any (X Y : Option Addr) (n k cx cy : Nat) (m : Int) (S : Nat) (w : World) (hs : 1 ≤ S) (hs2 : S ≤ 256) (hn : n ≤ 256) :
 Calls Try.prog 38 #[.agg #[.slice X n cx, .slice Y k cy, .int .i64 m, .int .i64 (S : Int)]] w fun e w' => e = .returned (.int .i64 (cdiv n S : Nat)) ∧ Below w.heap.size w w' := by
 have hk := Blk.new w 24 #[.slice X n cx, .slice Y k cy, .int .i64 m, .int .i64 (S : Int)]
 have q0 : World.cell? (w.alloc (.cells #[.slice X n cx, .slice Y k cy, .int .i64 m, .int .i64 (S : Int)] 24)) ⟨w.heap.size, 0, none⟩ = some (.slice X n cx) := hk.cell 0
 have f0 := hk.frozen 0
 have q1 : World.cell? (w.alloc (.cells #[.slice X n cx, .slice Y k cy, .int .i64 m, .int .i64 (S : Int)] 24)) ⟨w.heap.size, 1, none⟩ = some (.slice Y k cy) := hk.cell 1
 have f1 := hk.frozen 1
 have q2 : World.cell? (w.alloc (.cells #[.slice X n cx, .slice Y k cy, .int .i64 m, .int .i64 (S : Int)] 24)) ⟨w.heap.size, 2, none⟩ = some (.int .i64 m) := hk.cell 2
 have f2 := hk.frozen 2
 have q3 : World.cell? (w.alloc (.cells #[.slice X n cx, .slice Y k cy, .int .i64 m, .int .i64 (S : Int)] 24)) ⟨w.heap.size, 3, none⟩ = some (.int .i64 (S : Int)) := hk.cell 3
 have f3 := hk.frozen 3
 have fl := hk.lt
 have hle := cdiv_le (n := n) hs
 have hC := Lib.hid (fun k => cdiv_lt (n := n) (k := k) hs)
 obtain ⟨C, hCe⟩ : ∃ C, C = cdiv n S := ⟨_, rfl⟩
 rw [← hCe] at hC hle ⊢
 clear hCe
 go_enter Try.func38, Try.ntmps38
 go_wp2
 go_loop [3] (fun i => ∃ k : Nat, k ≤ C ∧ i = .int .i64 k) (fun i => C - (intOf i).toNat)
 case atStart => exact ⟨0, Nat.zero_le _, rfl⟩
 case round =>
  obtain ⟨k, hk, rfl⟩ := hrel
  obtain ⟨Z, hZ⟩ : ∃ Z, Z = k * S := ⟨_, rfl⟩
  have hm := mulw (k := k) (s := S) (by omega) (by omega)
  rw [← hZ] at hm
  by_cases hlt : k < C
  ·have hz : Z < n := by rw [hZ]; exact (hC.out k).1 hlt
   clear hZ
   go_wp2
   go_round
   case rel => exact ⟨k + 1, by omega, by go_num⟩
   case measure => simp [intOf]; omega
  ·have hz : ¬ Z < n := by rw [hZ]; exact fun h => hlt ((hC.out k).2 h)
   obtain rfl : k = C := by omega
   clear hZ
   go_wp2
   go_ret
   exact ⟨rfl, balloc (Below.refl _ _) _⟩
set_option maxHeartbeats 1000000 in
theorem wkCheck_any (X Y : Option Addr) (cx cy : Nat) (xs ys : List Int) (m s : Int) (w : World) (hx : RI .i64 w X xs) (hy : RI .i64 w Y ys) (hl : xs.length ≤ 140737488355328) (hl2 : ys.length ≤ 140737488355328) :
 Calls Try.prog 16 #[.agg #[.slice X xs.length cx, .slice Y ys.length cy, .int .i64 m, .int .i64 s]] w fun e w' => e = .returned (.int .i64 (jobErr xs ys m s)) ∧ Below w.heap.size w w' := by
 have hk := Blk.new w 24 #[.slice X xs.length cx, .slice Y ys.length cy, .int .i64 m, .int .i64 s]
 have hbX : Below w.heap.size w (w.alloc (.cells #[.slice X xs.length cx, .slice Y ys.length cy, .int .i64 m, .int .i64 s] 24)) := balloc (Below.refl _ _) _
 have q0 : World.cell? (w.alloc (.cells #[.slice X xs.length cx, .slice Y ys.length cy, .int .i64 m, .int .i64 s] 24)) ⟨w.heap.size, 0, none⟩ = some (.slice X xs.length cx) := hk.cell 0
 have f0 := hk.frozen 0
 have q1 : World.cell? (w.alloc (.cells #[.slice X xs.length cx, .slice Y ys.length cy, .int .i64 m, .int .i64 s] 24)) ⟨w.heap.size, 1, none⟩ = some (.slice Y ys.length cy) := hk.cell 1
 have f1 := hk.frozen 1
 have q2 : World.cell? (w.alloc (.cells #[.slice X xs.length cx, .slice Y ys.length cy, .int .i64 m, .int .i64 s] 24)) ⟨w.heap.size, 2, none⟩ = some (.int .i64 m) := hk.cell 2
 have f2 := hk.frozen 2
 have q3 : World.cell? (w.alloc (.cells #[.slice X xs.length cx, .slice Y ys.length cy, .int .i64 m, .int .i64 s] 24)) ⟨w.heap.size, 3, none⟩ = some (.int .i64 s) := hk.cell 3
 have f3 := hk.frozen 3
 have fl := hk.lt
 have hxk := hx.keep hbX
 have hyk := hy.keep hbX
 rcases (Decidable.em (streamErr xs = 0)).symm with he | he
 ·have e1 : (streamErr xs != 0) = true := by simp [he]
  have HR := Lib.hid (jobErr_x (ys := ys) (m := m) (s := s) he)
  clear he
  go_enter Try.func16, Try.ntmps16
  go_wp2_with fail
  refine (sampleCheck_any _ _ _ _ hxk hl).mono ?_
  rintro _ _ ⟨rfl, rfl⟩
  go_wp2
  go_ret
  exact ⟨ret_int HR.out.symm, hbX⟩
 have e1 : (streamErr xs != 0) = false := by simp [he]
 rcases (Decidable.em (streamErr ys = 0)).symm with he2 | he2
 ·have e2 : (streamErr ys != 0) = true := by simp [he2]
  have HR := Lib.hid (jobErr_y (m := m) (s := s) he he2)
  clear he he2
  go_enter Try.func16, Try.ntmps16
  go_wp2_with fail
  refine (sampleCheck_any _ _ _ _ hxk hl).mono ?_
  rintro _ _ ⟨rfl, rfl⟩
  go_wp2_with fail
  refine (sampleCheck_any _ _ _ _ hyk hl2).mono ?_
  rintro _ _ ⟨rfl, rfl⟩
  go_wp2
  go_ret
  exact ⟨ret_int HR.out.symm, hbX⟩
 have e2 : (streamErr ys != 0) = false := by simp [he2]
 have HB := Lib.hid (fun h3 => jobErr_b (m := m) (s := s) he he2 h3)
 have HO := Lib.hid (fun h3 => jobErr_ok (m := m) (s := s) he he2 h3)
 have hl5 := (streamErr_zero he).1
 clear he he2
 by_cases h1 : m < 0
 ·go_enter Try.func16, Try.ntmps16
  go_wp2_with fail
  refine (sampleCheck_any _ _ _ _ hxk hl).mono ?_
  rintro _ _ ⟨rfl, rfl⟩
  go_wp2_with fail
  refine (sampleCheck_any _ _ _ _ hyk hl2).mono ?_
  rintro _ _ ⟨rfl, rfl⟩
  go_wp2
  go_ret
  exact ⟨ret_int (HB.out (.inl h1)).symm, hbX⟩
 by_cases h2 : 255 < m
 ·go_enter Try.func16, Try.ntmps16
  go_wp2_with fail
  refine (sampleCheck_any _ _ _ _ hxk hl).mono ?_
  rintro _ _ ⟨rfl, rfl⟩
  go_wp2_with fail
  refine (sampleCheck_any _ _ _ _ hyk hl2).mono ?_
  rintro _ _ ⟨rfl, rfl⟩
  go_wp2
  go_ret
  exact ⟨ret_int (HB.out (.inr (.inl h2))).symm, hbX⟩
 by_cases h3 : s < 1
 ·go_enter Try.func16, Try.ntmps16
  go_wp2_with fail
  refine (sampleCheck_any _ _ _ _ hxk hl).mono ?_
  rintro _ _ ⟨rfl, rfl⟩
  go_wp2_with fail
  refine (sampleCheck_any _ _ _ _ hyk hl2).mono ?_
  rintro _ _ ⟨rfl, rfl⟩
  go_wp2
  go_ret
  exact ⟨ret_int (HB.out (.inr (.inr (.inl h3)))).symm, hbX⟩
 by_cases h4 : 256 < s
 ·go_enter Try.func16, Try.ntmps16
  go_wp2_with fail
  refine (sampleCheck_any _ _ _ _ hxk hl).mono ?_
  rintro _ _ ⟨rfl, rfl⟩
  go_wp2_with fail
  refine (sampleCheck_any _ _ _ _ hyk hl2).mono ?_
  rintro _ _ ⟨rfl, rfl⟩
  go_wp2
  go_ret
  exact ⟨ret_int (HB.out (.inr (.inr (.inr (.inl h4))))).symm, hbX⟩
 obtain ⟨S, rfl⟩ : ∃ S : Nat, s = S := ⟨s.toNat, by omega⟩
 rw [Int.toNat_natCast] at HB HO
 have HC := fun w => wkblk_any X Y xs.length ys.length cx cy m S w (by omega) (by omega) hl5
 generalize cdiv xs.length S = C at HB HO HC
 have h3' : decide ((S : Int) < 1) = false := by simpa using h3
 have h4' : decide (256 < (S : Int)) = false := by simpa using h4
 by_cases h5 : 64 < C
 ·have h5' : decide (64 < (C : Int)) = true := by simp; omega
  go_enter Try.func16, Try.ntmps16
  go_wp2_with fail
  refine (sampleCheck_any _ _ _ _ hxk hl).mono ?_
  rintro _ _ ⟨rfl, rfl⟩
  go_wp2_with fail
  refine (sampleCheck_any _ _ _ _ hyk hl2).mono ?_
  rintro _ _ ⟨rfl, rfl⟩
  go_wp2_with fail
  refine (HC _).mono ?_
  rintro _ w1 ⟨rfl, hb1⟩
  go_wp2
  go_ret
  exact ⟨ret_int (HB.out (.inr (.inr (.inr (.inr h5))))).symm, bstep hbX hb1⟩
 ·have h5' : decide (64 < (C : Int)) = false := by simp; omega
  go_enter Try.func16, Try.ntmps16
  go_wp2_with fail
  refine (sampleCheck_any _ _ _ _ hxk hl).mono ?_
  rintro _ _ ⟨rfl, rfl⟩
  go_wp2_with fail
  refine (sampleCheck_any _ _ _ _ hyk hl2).mono ?_
  rintro _ _ ⟨rfl, rfl⟩
  go_wp2_with fail
  refine (HC _).mono ?_
  rintro _ w1 ⟨rfl, hb1⟩
  go_wp2
  go_ret
  exact ⟨ret_int (HO.out (by omega)).symm, bstep hbX hb1⟩
end Wk
end Go.Proofs.Ytdekbncpodjgnaa
