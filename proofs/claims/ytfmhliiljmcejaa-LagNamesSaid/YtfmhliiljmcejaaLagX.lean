/-
  Contract: lag.Cut.
-/
import Derived.Test.YtfmhliiljmcejaaLagV
import Derived.Test.YtfmhliiljmcejaaCopy
import Derived.StillTailTactics
namespace Go.Proofs.Ytfmhliiljmcejaa
open Go.RowKit
set_option linter.unusedVariables false

/-- What both Cuts answer: two lists and an error. -/
def cutA (xs : List Int) (n : Nat) : List Int := xs.take n ++ List.replicate (xs.length - n) 0
def cutB (xs : List Int) (n : Nat) : List Int := List.replicate n 0 ++ xs.drop n
def cutSpec (xs : List Int) (at_ : Int) : List Int × List Int × Int :=
  if streamErr xs ≠ 0 then ([], [], streamErr xs) else if at_ < 0 ∨ (xs.length : Int) < at_ then ([], [], 2) else (cutA xs at_.toNat, cutB xs at_.toNat, 0)
theorem cut_err {xs : List Int} {a : Int} (h : ¬ streamErr xs = 0) : cutSpec xs a = ([], [], streamErr xs) := by simp [cutSpec, h]
theorem cut_arg {xs : List Int} {a : Int} (h : streamErr xs = 0) (h2 : a < 0 ∨ (xs.length : Int) < a) : cutSpec xs a = ([], [], 2) := by simp [cutSpec, h, h2]
theorem cut_ok {xs : List Int} {n : Nat} (h : streamErr xs = 0) (h2 : n ≤ xs.length) : cutSpec xs (n : Int) = (cutA xs n, cutB xs n, 0) := by
  unfold cutSpec
  rw [if_neg (by simp [h]), if_neg (by omega)]
  simp
theorem cutA_len {xs : List Int} {n : Nat} (h : n ≤ xs.length) : (cutA xs n).length = xs.length := by simp [cutA]; omega
theorem cutB_len {xs : List Int} {n : Nat} (h : n ≤ xs.length) : (cutB xs n).length = xs.length := by simp [cutB]; omega

/-- The call returned two lists of numbers in new memory, and an error. -/
def RetII (w : World) (r : List Int × List Int × Int) (e : Ending) (w' : World) : Prop :=
  ∃ A c B d, e = .returned (.tuple #[.slice A r.1.length c, .slice B r.2.1.length d, .int .i64 r.2.2]) ∧ RI .i64 w' A r.1 ∧ RI .i64 w' B r.2.1 ∧ Below w.heap.size w w'
theorem RetII.nil {w w' : World} {x : Int} {r : List Int × List Int × Int} (hr : r = ([], [], x)) (hb : Below w.heap.size w w') : RetII w r (.returned (.tuple #[.slice none 0 0, .slice none 0 0, .int .i64 x])) w' := by
  subst hr
  exact ⟨none, 0, none, 0, rfl, RI.nil, RI.nil, hb⟩
theorem RetII.mk {w w' : World} {a b : List Int} {n m c d : Nat} {A B : Option Addr} {r : List Int × List Int × Int} (hr : r = (a, b, 0)) (h1 : a.length = n) (h2 : b.length = m) (hA : RI .i64 w' A a) (hB : RI .i64 w' B b) (hb : Below w.heap.size w w') :
    RetII w r (.returned (.tuple #[.slice A n c, .slice B m d, .int .i64 0])) w' := by
  subst hr; subst h1; subst h2
  exact ⟨A, c, B, d, rfl, hA, hB, hb⟩

theorem cut_src1 {w : World} {b off n : Nat} {xs : List Int} {X1 : List Value} {o1 o2 : Obj} (hb : b < w.heap.size) (hcell : ∀ j, j < xs.length → w.cell? ⟨b, off + j, none⟩ = some (.int .i64 (xs.getD j 0))) (hX : X1 = (xs.take n).flatMap (encI .i64)) (hn : n ≤ xs.length) {j : Nat} {v : Value} (hv : X1[j]? = some v) :
    ((w.alloc o1).alloc o2).cell? ((⟨b, off, none⟩ : Addr).add j) = some v := by
  subst hX
  have hj : j < (xs.take n).length := by
    have := (List.getElem?_eq_some_iff.1 hv).1
    rwa [flat_len _ 1 (encI_len .i64), Nat.mul_one] at this
  have h1 := flat_get (encI .i64) 1 (encI_len .i64) (xs.take n) j 0 (by omega) hj
  rw [Nat.mul_one, Nat.add_zero, hv] at h1
  have hj2 : j < xs.length := by simp at hj; omega
  have e2 : (⟨b, off, none⟩ : Addr).add j = ⟨b, off + j, none⟩ := by unfold Addr.add; split <;> simp_all
  rw [e2, World.cell?_alloc_lt _ _ _ (by simp; omega), World.cell?_alloc_lt _ _ _ (by simpa using hb), hcell j hj2, getD_lt _ _ hj2]
  simpa [encI] using h1.symm
theorem cut_src2 {w : World} {b off n : Nat} {xs : List Int} {X2 : List Value} (hcell : ∀ j, j < xs.length → w.cell? ⟨b, off + j, none⟩ = some (.int .i64 (xs.getD j 0))) (hX : X2 = (xs.drop n).flatMap (encI .i64)) {j : Nat} {v : Value} (hv : X2[j]? = some v) :
    w.drew.cell? (((⟨b, off, none⟩ : Addr).add n).add j) = some v := by
  subst hX
  have hj : j < (xs.drop n).length := by
    have := (List.getElem?_eq_some_iff.1 hv).1
    rwa [flat_len _ 1 (encI_len .i64), Nat.mul_one] at this
  have h1 := flat_get (encI .i64) 1 (encI_len .i64) (xs.drop n) j 0 (by omega) hj
  rw [Nat.mul_one, Nat.add_zero, hv] at h1
  have hj2 : n + j < xs.length := by simp at hj; omega
  have e2 : ∀ (b off j : Nat), (⟨b, off, none⟩ : Addr).add j = ⟨b, off + j, none⟩ := by intro b off j; unfold Addr.add; split <;> simp_all
  rw [e2, e2, Nat.add_assoc]
  show w.cell? _ = _
  rw [hcell (n + j) hj2, getD_lt _ _ hj2]
  simpa [encI] using h1.symm
theorem flat_rep (n : Nat) : (List.replicate n (0 : Int)).flatMap (encI .i64) = List.replicate n (.int .i64 0) := by
  rw [flatI, List.map_replicate]
theorem cut_row1 {xs : List Int} {n : Nat} {Z X1 : List Value} (hZ : Z = (List.replicate xs.length (0 : Int)).flatMap (encI .i64)) (hX : X1 = (xs.take n).flatMap (encI .i64)) (hn : n ≤ xs.length) : splice Z 0 X1 = (cutA xs n).flatMap (encI .i64) := by
  subst hZ; subst hX
  unfold splice cutA
  rw [List.flatMap_append, flat_rep, flat_rep, flat_len _ 1 (encI_len .i64)]
  simp [Nat.min_eq_left hn]
theorem cut_row2 {xs : List Int} {n : Nat} {Z X2 : List Value} (hZ : Z = (List.replicate xs.length (0 : Int)).flatMap (encI .i64)) (hX : X2 = (xs.drop n).flatMap (encI .i64)) (hn : n ≤ xs.length) : splice Z n X2 = (cutB xs n).flatMap (encI .i64) := by
  subst hZ; subst hX
  unfold splice cutB
  rw [List.flatMap_append, flat_rep, flat_rep, flat_len _ 1 (encI_len .i64)]
  simp [Nat.min_eq_left hn]
  omega

theorem lagCut_any (A : Option Addr) (c : Nat) (xs : List Int) (at_ : Int) (w : World) (hx : RI .i64 w A xs) (hl : xs.length ≤ 140737488355328) (hc : xs.length ≤ c) :
    Calls Try.prog 13 #[.slice A xs.length c, .int .i64 at_] w (RetII w (cutSpec xs at_)) := by
  rcases (Decidable.em (streamErr xs = 0)).symm with he | he
  · have e1 : (streamErr xs != 0) = true := by simp [he]
    have HE := Lib.hid he
    clear he
    go_enter Try.func13, Try.ntmps13
    go_wp2_with (go_at_call 30; refine (sampleCheck_any _ _ _ _ hx hl).mono ?_; rintro e w' ⟨rfl, rfl⟩)
    go_ret3
    exact RetII.nil (cut_err HE.out) (Below.refl _ _)
  have e1 : (streamErr xs != 0) = false := by simp [he]
  have HE := Lib.hid he
  have hl5 := (streamErr_zero he).1
  clear he
  rcases (Decidable.em (0 ≤ at_ ∧ at_ ≤ xs.length)).symm with hm | hm
  · have hm' : at_ < 0 ∨ (0 ≤ at_ ∧ (xs.length : Int) < at_) := by omega
    have HM := Lib.hid (show at_ < 0 ∨ (xs.length : Int) < at_ by omega)
    clear hm
    rcases hm' with hm | hm
    all_goals
      go_enter Try.func13, Try.ntmps13
      go_wp2_with (go_at_call 30; refine (sampleCheck_any _ _ _ _ hx hl).mono ?_; rintro e w' ⟨rfl, rfl⟩)
      go_ret3
      exact RetII.nil (cut_arg HE.out HM.out) (Below.refl _ _)
  obtain ⟨n, rfl⟩ : ∃ n : Nat, at_ = (n : Int) := ⟨at_.toNat, by omega⟩
  have hn : n ≤ xs.length := by omega
  have dm1 : decide ((n : Int) < 0) = false := by simp
  have dm2 : decide ((xs.length : Int) < (n : Int)) = false := by simp; omega
  clear hm
  obtain ⟨i0, hi0, hz0, hz1, hz2⟩ := info_parts info_int
  have hmk := mk_row (P := Try.prog) 22 3 Try.underlying22 hi0 hz0 hz1 hz2 (encI .i64) (encI_len .i64) (by omega) 0 rfl xs.length (by omega) (by omega)
  have hsz1 : (Try.prog.info? 3).map (·.size) = some 1 := by kernel_rfl
  have HS := Lib.hid hsz1
  clear hsz1
  obtain ⟨Z, hZ⟩ : ∃ Z, Z = (List.replicate xs.length (0 : Int)).flatMap (encI .i64) := ⟨_, rfl⟩
  obtain ⟨X1, hX1⟩ : ∃ X1, X1 = (xs.take n).flatMap (encI .i64) := ⟨_, rfl⟩
  obtain ⟨X2, hX2⟩ : ∃ X2, X2 = (xs.drop n).flatMap (encI .i64) := ⟨_, rfl⟩
  have lZ : Z.length = xs.length := by rw [hZ, flat_len _ 1 (encI_len .i64)]; simp
  have lX1 : X1.length = n := by rw [hX1, flat_len _ 1 (encI_len .i64)]; simp; omega
  have lX2 : X2.length = xs.length - n := by rw [hX2, flat_len _ 1 (encI_len .i64)]; simp
  rw [← hZ] at hmk
  have HZ := Lib.hid hZ
  have HX1 := Lib.hid hX1
  have HX2 := Lib.hid hX2
  have LZ := Lib.hid lZ
  have LX1 := Lib.hid lX1
  have LX2 := Lib.hid lX2
  clear hZ hX1 hX2 lZ lX1 lX2
  go_enter Try.func13, Try.ntmps13
  go_wp2_with (first
    | (go_at_call 30; refine (sampleCheck_any _ _ _ _ hx hl).mono ?_; rintro e w' ⟨rfl, rfl⟩)
    | (with_reducible refine wpList_copy_row rfl (.tmp 30) (.tmp 31) 22 22 rfl 3 Try.underlying22 HS.out _ _ _ _ _ _ rfl rfl w.heap.size 0 Z 3 ?d1 X1 ?d2 ?d3 ?d4 ?d5 ?_))
  case d1 => exact (Blk.new w 3 Z.toArray).alloc _
  case d2 => rw [LX1.out]; show n = min xs.length n; omega
  case d3 =>
    intro h0
    rw [LX1.out] at h0
    obtain ⟨b, off, rfl, hb, hcell⟩ := hx (by omega)
    refine ⟨_, rfl, fun j v hv => ?_⟩
    exact cut_src1 hb hcell HX1.out hn hv
  case d4 => rw [LX1.out, LZ.out]; omega
  case d5 => rw [HX1.out]; intro u hu; obtain ⟨y, _, hy⟩ := List.mem_flatMap.1 hu; exact encI_one .i64 y u hy
  intro w1 hF1 hg1
  have hB1 : Below w.heap.size w w1 := ((balloc (balloc (Below.refl _ _) (.cells Z.toArray 3)) (.cells Z.toArray 3))).grown hg1 (by simp; omega) (by intro k hk; injection hk with hk; omega)
  have hG : Blk w1 (w.heap.size + 1) 3 Z.toArray := (Blk.newAt (w := w.alloc (.cells Z.toArray 3)) 3 Z.toArray (by simp)).grown hg1 (by simp)
  clear hg1
  go_wp2_with fail
  go_still_tail 10, (by kernel_rfl)
  with_reducible refine wpList_copy_row rfl (.tmp 39) (.tmp 42) 22 22 rfl 3 Try.underlying22 HS.out _ _ _ _ _ _ rfl rfl (w.heap.size + 1) n Z 3 ?k1 X2 ?k2 ?k3 ?k4 ?k5 ?_
  case k1 => exact hG
  case k2 => rw [LX2.out]; show xs.length - n = min (xs.length - n) (xs.length - n); omega
  case k3 =>
    intro h0
    rw [LX2.out] at h0
    refine ⟨by rw [if_neg (by omega)], ?_⟩
    obtain ⟨b, off, rfl, hb, hcell⟩ := (hx.keep hB1) (by omega)
    refine ⟨(⟨b, off, none⟩ : Addr).add n, by rw [if_neg (by omega)]; rfl, fun j v hv => ?_⟩
    exact cut_src2 hcell HX2.out hv
  case k4 => rw [LX2.out, LZ.out]; omega
  case k5 => rw [HX2.out]; intro u hu; obtain ⟨y, _, hy⟩ := List.mem_flatMap.1 hu; exact encI_one .i64 y u hy
  intro w2 hF2 hg2
  have hB2 : Below w.heap.size w w2 := hB1.drew.grown hg2 hB1.size (by intro k hk; injection hk with hk; omega)
  have hF1' : Blk w2 w.heap.size 3 (splice Z 0 X1).toArray := (show Blk w1.drew _ _ _ from hF1).grown hg2 (by simp)
  have r1 : RI .i64 w2 (some ⟨w.heap.size, 0, none⟩) (cutA xs n) := blk_RI (e := 3) (by rw [← cut_row1 HZ.out HX1.out hn]; exact hF1')
  have r2 : RI .i64 w2 (some ⟨w.heap.size + 1, 0, none⟩) (cutB xs n) := blk_RI (e := 3) (by rw [← cut_row2 HZ.out HX2.out hn]; exact hF2)
  clear hg2 hF1 hF2 hF1' hB1 hG
  go_wp2
  all_goals
    go_ret3
    exact RetII.mk (cut_ok HE.out hn) (by have := cutA_len hn; omega) (by have := cutB_len hn; omega) r1 r2 hB2
end Go.Proofs.Ytfmhliiljmcejaa
