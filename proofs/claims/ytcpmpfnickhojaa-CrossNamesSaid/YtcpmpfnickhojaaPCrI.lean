/-
  Layer 17, contract: Of.
  CrossOf: the walk.
-/
import Derived.Test.YtcpmpfnickhojaaPCrF
import Derived.Test.YtcpmpfnickhojaaPLag
namespace Go.Proofs.Ytcpmpfnickhojaa
open Go.RowKit Num Dft
set_option linter.unusedVariables false
set_option linter.unusedSimpArgs false
namespace Crs
open Lol

def RetL (w : World) (r : List (Int × Int) × Int) (e : Ending) (w' : World) : Prop :=
  ∃ A c, e = .returned (.tuple #[.slice A r.1.length c, .int .i64 r.2]) ∧ RL w' A r.1 ∧ Below w.heap.size w w'
theorem RetL.no {w w' : World} {x : Int} {r : List (Int × Int) × Int} (hr : r = ([], x)) (hb : Below w.heap.size w w') : RetL w r (.returned (.tuple #[.slice none 0 0, .int .i64 x])) w' := by
  subst hr; exact ⟨none, 0, rfl, RL.nil, hb⟩
theorem RetL.row {w w' : World} {A : Option Addr} {c n : Nat} {l : List (Int × Int)} {x : Int} {r : List (Int × Int) × Int} (hr : r = (l, x)) (hn : l.length = n) (h : RL w' A l) (hb : Below w.heap.size w w') : RetL w r (.returned (.tuple #[.slice A n c, .int .i64 x])) w' := by
  subst hr; subst hn; exact ⟨A, c, rfl, h, hb⟩
theorem info_lag : (Try.prog.info? 55).map (fun i => (i.zero, i.size, i.bytes)) = some (some (.agg #[.int .i64 0, .int .i64 0]), 2, 16) := by kernel_rfl
theorem set_pair {l : List (Int × Int)} {k : Nat} (hk : k < l.length) (x y : Int) : ((l.flatMap encP).set (k * 2) (.int .i64 x)).set (k * 2 + 1) (.int .i64 y) = (l.set k (x, y)).flatMap encP := by
  have h1 := flat_set encP 2 encP_len l k 0 (by omega) hk (.int .i64 x) (x, l[k].2) rfl
  have h2 := flat_set encP 2 encP_len (l.set k (x, l[k].2)) k 1 (by omega) (by simpa using hk) (.int .i64 y) (x, y) (by rw [List.getElem_set_self]; rfl)
  rw [Nat.add_zero] at h1
  rw [h1, h2, List.set_set]
theorem blk_pair {w : World} {g : Nat} {e : TypeId} {l : List (Int × Int)} (h : Blk w g e (l.flatMap encP).toArray) {k : Nat} (hk : k < l.length) (x y : Int) : Blk ((w.setCell ⟨g, k * 2, none⟩ (.int .i64 x)).setCell ⟨g, k * 2 + 1, none⟩ (.int .i64 y)) g e ((l.set k (x, y)).flatMap encP).toArray := by
  have h1 := (h.put (k * 2) (.int .i64 x)).put (k * 2 + 1) (.int .i64 y)
  rw [List.setIfInBounds_toArray, List.setIfInBounds_toArray, set_pair hk] at h1
  exact h1
theorem blk_pair_at {w : World} {g : Nat} {e : TypeId} {l : List (Int × Int)} (h : Blk w g e (l.flatMap encP).toArray) {k : Nat} (hk : k < l.length) : w.cell? ⟨g, k * 2, none⟩ = some (.int .i64 (l.getD k (0, 0)).1) ∧ w.cell? ⟨g, k * 2 + 1, none⟩ = some (.int .i64 (l.getD k (0, 0)).2) := by
  rw [h.cell, h.cell, getD_lt _ _ hk]
  have h1 := flat_get encP 2 encP_len l k 0 (by omega) hk
  have h2 := flat_get encP 2 encP_len l k 1 (by omega) hk
  constructor
  · simpa [encP] using h1
  · simpa [encP] using h2
def lagP (xs ys : List Int) (m t : Nat) : Int × Int := (lgF xs ys m t, lgF (nzL xs) (nzL ys) m t)
set_option maxHeartbeats 2000000 in
theorem crossOf_any (A B : Option Addr) (c d : Nat) (xs ys : List Int) (most : Int) (w : World) (hx : RI .i64 w A xs) (hy : RI .i64 w B ys) (hc : xs.length ≤ c) (hd : ys.length ≤ d) (hl : xs.length ≤ 140737488355328) (hl2 : ys.length ≤ 140737488355328) :
    Calls Try.prog 21 #[.slice A xs.length c, .slice B ys.length d, .int .i64 most] w (RetL w (Lagw.ofSpec xs ys most)) := by
  rcases (Decidable.em (streamErr xs = 0)).symm with he | he
  · have e1 : (streamErr xs != 0) = true := by simp [he]
    have HE := Lib.hid (Lagw.ofSpec_x (ys := ys) (most := most) he)
    clear he
    go_enter Try.func21, Try.ntmps21
    go_wp2_with fail
    refine (sampleCheck_any _ _ _ _ hx hl).mono ?_
    rintro _ _ ⟨rfl, rfl⟩
    go_wp2
    go_ret2
    exact RetL.no HE.out (Below.refl _ _)
  have e1 : (streamErr xs != 0) = false := by simp [he]
  rcases (Decidable.em (streamErr ys = 0)).symm with he2 | he2
  · have e2 : (streamErr ys != 0) = true := by simp [he2]
    have HE := Lib.hid (Lagw.ofSpec_y (most := most) he he2)
    clear he he2
    go_enter Try.func21, Try.ntmps21
    go_wp2_with fail
    refine (sampleCheck_any _ _ _ _ hx hl).mono ?_
    rintro _ _ ⟨rfl, rfl⟩
    go_wp2_with fail
    refine (sampleCheck_any _ _ _ _ hy hl2).mono ?_
    rintro _ _ ⟨rfl, rfl⟩
    go_wp2
    go_ret2
    exact RetL.no HE.out (Below.refl _ _)
  have e2 : (streamErr ys != 0) = false := by simp [he2]
  by_cases hm : most < 0 ∨ 255 < most
  · have HE := Lib.hid (Lagw.ofSpec_m he he2 hm)
    clear he he2
    rcases hm with hm | hm
    all_goals
      go_enter Try.func21, Try.ntmps21
      go_wp2_with fail
      refine (sampleCheck_any _ _ _ _ hx hl).mono ?_
      rintro _ _ ⟨rfl, rfl⟩
      go_wp2_with fail
      refine (sampleCheck_any _ _ _ _ hy hl2).mono ?_
      rintro _ _ ⟨rfl, rfl⟩
      go_wp2
      go_ret2
      exact RetL.no HE.out (Below.refl _ _)
  obtain ⟨m, rfl⟩ : ∃ m : Nat, most = m := ⟨most.toNat, by omega⟩
  have hm5 : m ≤ 255 := by omega
  have hl5 := (Lagw.streamErr_zero he).1
  have hl6 := (Lagw.streamErr_zero he2).1
  have HE := Lib.hid (Lagw.ofSpec_ok he he2 hm5)
  have HC1 := fun w hx hy => correlate_any A B c d _ _ xs ys m w rfl rfl hx hy hc hd he he2 hm5
  have HC2 := fun A B c d w hx hy hc hd => correlate_any A B c d xs.length ys.length (nzL xs) (nzL ys) m w (nzL_len _) (nzL_len _) hx hy hc hd (nz_stream he) (nz_stream he2) hm5
  have HEND := Lib.hid (lags_eq xs ys m)
  have HLL := Lib.hid (Lagw.lagCells_len xs ys m)
  have HB1 := Lib.hid (fun t => lgF_bd he he2 m t)
  obtain ⟨n, hn⟩ : ∃ n, n = 2 * m + 1 := ⟨_, rfl⟩
  have hmn : 2 * (m : Int) + 1 = (n : Int) := by omega
  have hnb : n ≤ 511 := by omega
  rw [← hn] at HC1 HC2 HEND HLL
  clear he he2 hn hm
  obtain ⟨i0, hi0, hz0, hz1, hz2⟩ := info_parts info_lag
  have hmk := mk_row (P := Try.prog) 43 55 Try.underlying43 hi0 hz0 hz1 hz2 encP encP_len (by omega) (0, 0) rfl n (by omega) (by omega)
  go_enter Try.func21, Try.ntmps21
  go_wp2_with fail
  refine (sampleCheck_any _ _ _ _ hx hl).mono ?_
  rintro _ _ ⟨rfl, rfl⟩
  go_wp2_with fail
  refine (sampleCheck_any _ _ _ _ hy hl2).mono ?_
  rintro _ _ ⟨rfl, rfl⟩
  go_wp2_with fail
  refine (HC1 _ hx hy).mono ?_
  rintro _ w1 ⟨A1, c1, rfl, r1, hb1⟩
  go_wp2_with fail
  refine (ones_any _ _ _ _ (hx.keep hb1) (by omega)).mono ?_
  rintro _ w2 ⟨A2, c2, rfl, r2, hc2, hb2⟩
  have hB2 := bstep hb1 hb2
  go_wp2_with fail
  refine (ones_any _ _ _ _ (hy.keep hB2) (by omega)).mono ?_
  rintro _ w3 ⟨A3, c3, rfl, r3, hc3, hb3⟩
  have hB3 := bstep hB2 hb3
  go_wp2_with fail
  refine (HC2 _ _ _ _ _ (r2.keep hb3) r3 hc2 hc3).mono ?_
  rintro _ w4 ⟨A4, c4, rfl, r4, hb4⟩
  have hB4 := bstep hB3 hb4
  replace r1 := ((r1.keep hb2).keep hb3).keep hb4
  clear hb1 hb2 hb3 hb4 hB2 hB3 r2 r3 HC1 HC2
  go_wp2
  go_loopg [59] n (fun gk i wr => ∃ (k : Nat), k + gk = n ∧ i = .int .i64 k ∧ Blk wr w4.heap.size 55 ((partL (lagP xs ys m) (0, 0) n k).flatMap encP).toArray ∧ Below w4.heap.size w4 wr)
  case atStart => exact ⟨0, by omega, rfl, by rw [partL_start]; exact Blk.new w4 55 _, balloc (Below.refl _ _) _⟩
  case round =>
    obtain ⟨k, hk, rfl, hO, hb⟩ := hrel
    have hk' : k ≤ n := by omega
    have HK := Lib.hid hk
    clear hk hmk
    by_cases hlt : k < n
    · obtain ⟨b1, off1, rfl, hlw1, hc1⟩ := (r1.keep hb).at2 (i := k) (by rw [fullL_len]; exact hlt)
      obtain ⟨b2, off2, rfl, hlw2, hc2'⟩ := (r4.keep hb).at2 (i := k) (by rw [fullL_len]; exact hlt)
      rw [fullL_getD _ _ _ _ hlt] at hc1 hc2'
      obtain ⟨o0, o1⟩ := blk_pair_at hO (k := k) (by rw [partL_len]; exact hlt)
      have of0 := hO.frozen (k * 2)
      have of1 := hO.frozen (k * 2 + 1)
      have hgl := hO.lt
      have HM := Lib.hid (partL_set (lagP xs ys m) (0, 0) n k (lgF xs ys m k, lgF (nzL xs) (nzL ys) m k) rfl)
      go_wp2
      all_goals go_region
      all_goals go_wp2
      all_goals
        go_roundg (gk - 1)
        case rel => exact ⟨k + 1, by have := HK.out; omega, by go_num, by rw [← HM.out]; exact (blk_pair hO (by rw [partL_len]; exact hlt) _ _).drew, ((hb.setCell (p := ⟨w4.heap.size, k * 2, none⟩) (Nat.le_refl _) _).setCell (p := ⟨w4.heap.size, k * 2 + 1, none⟩) (Nat.le_refl _) _).drew⟩
        case measure => have := HK.out; omega
    · rw [partL_end _ _ _ _ (by omega)] at hO
      have e5 : fullL (lagP xs ys m) n = Lagw.lagCells xs ys m := HEND.out
      rw [e5] at hO
      clear e5
      go_wp2
      go_ret2
      exact RetL.row HE.out HLL.out (blk_RL hO) (bstep hB4 hb)
end Crs
end Go.Proofs.Ytcpmpfnickhojaa
namespace Go.Proofs.Ytcpmpfnickhojaa
open Go.RowKit Num Dft
set_option linter.unusedVariables false
set_option linter.unusedSimpArgs false
namespace Crs
open Lol

theorem refOf17_any (A B : Option Addr) (c d : Nat) (xs ys : List Int) (most : Int) (w : World) (hx : RI .i64 w A xs) (hy : RI .i64 w B ys) (hl : xs.length ≤ 140737488355328) (hl2 : ys.length ≤ 140737488355328) :
    Calls Try.prog 22 #[.slice A xs.length c, .slice B ys.length d, .int .i64 most] w (RetL w (Lagw.ofSpec xs ys most)) := by
  go_enter Try.func22, Try.ntmps22
  go_wp2_with fail
  refine (Lagw.refOf_any _ _ _ _ _ _ most _ hx hy hl hl2).mono ?_
  rintro _ w1 ⟨A1, c1, rfl, ho1, hb1⟩
  have r1 := own_RL ho1
  generalize Lagw.ofSpec xs ys most = R at *
  go_wp2
  go_ret2
  exact ⟨A1, c1, rfl, r1, hb1⟩
theorem of_len (xs ys : List Int) (most : Int) : (Lagw.ofSpec xs ys most).1.length ≤ 511 := by
  unfold Lagw.ofSpec
  repeat' split
  all_goals first | (simp; done) | skip
  rename_i h
  rw [Lagw.lagCells_len]
  omega
set_option maxHeartbeats 2000000 in
theorem crossOf_walk (A : Option Addr) (c : Nat) (xs : List Int) (B : Option Addr) (d : Nat) (ys : List Int) (most : Int) (w : World)
    (hx : RI .i64 w A xs) (hlx : xs.length ≤ 9223372036854775807) (_ : ∀ x ∈ xs, (Lit.int .i64 x).wf = true)
    (hy : RI .i64 w B ys) (hly : ys.length ≤ 9223372036854775807) (_ : ∀ x ∈ ys, (Lit.int .i64 x).wf = true)
    (_ : -9223372036854775808 ≤ most ∧ most ≤ 9223372036854775807) :
    Calls Try.prog 4 #[.slice A xs.length c, .slice B ys.length d, .int .i64 most] w fun e w' => e = .returned (.bool true) ∧ Below w.heap.size w w' := by
  rcases (Decidable.em (xs.length ≤ 300)).symm with h1 | h1
  · have d1 : decide (300 < xs.length) = true := by simp; omega
    go_enter Try.func4, Try.ntmps4
    go_wp2_with fail
    refine (long13_any _ _ _ _).mono ?_
    rintro _ _ ⟨rfl, rfl⟩
    go_wp2
    go_ret
    exact ⟨rfl, Below.refl _ _⟩
  have d1 : decide (300 < xs.length) = false := by simp; omega
  rcases (Decidable.em (ys.length ≤ 300)).symm with h2 | h2
  · have d2 : decide (300 < ys.length) = true := by simp; omega
    go_enter Try.func4, Try.ntmps4
    go_wp2_with fail
    refine (long13_any _ _ _ _).mono ?_
    rintro _ _ ⟨rfl, rfl⟩
    go_wp2_with fail
    refine (long13_any _ _ _ _).mono ?_
    rintro _ _ ⟨rfl, rfl⟩
    go_wp2
    go_ret
    exact ⟨rfl, Below.refl _ _⟩
  have d2 : decide (300 < ys.length) = false := by simp; omega
  obtain ⟨i0, hi0, hz0, hz1, hz2⟩ := info_parts info_int
  have hLen := of_len xs ys most
  have HO1 := fun A B c d w hx hy hc hd => crossOf_any A B c d xs ys most w hx hy hc hd (by omega) (by omega)
  have HO2 := fun w hx hy => refOf17_any A B c d xs ys most w hx hy (by omega) (by omega)
  generalize Lagw.ofSpec xs ys most = R at *
  go_enter Try.func4, Try.ntmps4
  go_wp2_with fail
  refine (long13_any _ _ _ _).mono ?_
  rintro _ _ ⟨rfl, rfl⟩
  go_wp2_with fail
  refine (long13_any _ _ _ _).mono ?_
  rintro _ _ ⟨rfl, rfl⟩
  go_wp2_with (first
    | (at_builtin; refine wpList_clone_RI _ rfl (.tmp 19) (.tmp 20) 22 rfl 3 8 Try.underlying22 hi0 hz0 hz1 hz2 rfl .i64 _ rfl (by simp) A c xs rfl hx (by unfold maxLen; omega) (by omega) ?_; intro A1 c1 w1 hc1 rO hb1)
    | (at_builtin; refine wpList_clone_RI _ rfl (.tmp 22) (.tmp 23) 22 rfl 3 8 Try.underlying22 hi0 hz0 hz1 hz2 rfl .i64 _ rfl (by simp) B d ys rfl (hy.keep hb1) (by unfold maxLen; omega) (by omega) ?_; intro A2 c2 w2 hc2 rP hb2)
    | fail)
  have hB2 := bstep hb1 hb2
  replace rO := rO.keep hb2
  clear hb1 hb2
  refine (HO1 _ _ _ _ _ rO rP hc1 hc2).mono ?_
  rintro _ w3 ⟨A3, c3, rfl, r3, hb3⟩
  have hB3 := bstep hB2 hb3
  replace rO := rO.keep hb3
  replace rP := rP.keep hb3
  clear hb3 hB2
  go_wp2_with fail
  refine (HO2 _ (hx.keep hB3) (hy.keep hB3)).mono ?_
  rintro _ w4 ⟨A4, c4, rfl, r4, hb4⟩
  have hB4 := bstep hB3 hb4
  replace rO := rO.keep hb4
  replace rP := rP.keep hb4
  replace r3 := r3.keep hb4
  clear hb4 hB3
  have rX := hx.keep hB4
  have rY := hy.keep hB4
  go_wp2_with fail
  refine (Lagc.same16_any _ _ _ _ _ _ _ r3 r4 (by omega) (by omega)).mono ?_
  rintro _ w5 ⟨rfl, q5, rfl⟩
  go_wp2_with fail
  refine (same13_any _ _ _ _ _ _ _ (rO.keep (below_drewN (Below.refl _ _) _)) (rX.keep (below_drewN (Below.refl _ _) _)) (by omega) (by omega)).mono ?_
  rintro _ w6 ⟨rfl, q6, rfl⟩
  go_wp2_with fail
  refine (same13_any _ _ _ _ _ _ _ (rP.keep (below_drewN (Below.refl _ _) _)) (rY.keep (below_drewN (Below.refl _ _) _)) (by omega) (by omega)).mono ?_
  rintro _ w7 ⟨rfl, q7, rfl⟩
  go_wp2
  go_ret
  exact ⟨by simp, by first | exact below_drewN hB4 _ | exact below_drewN (below_drewN hB4 _) _⟩
end Crs
end Go.Proofs.Ytcpmpfnickhojaa
