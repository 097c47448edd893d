/-
  Contracts: search.Stop, fringeref20.Stop.
-/
import Derived.Test.YtnejmgnbamajdaaSearchC
import Derived.Test.YtnejmgnbamajdaaGen
namespace Go.Proofs.Ytnejmgnbamajdaa
open Go.RowKit
set_option linter.unusedVariables false

theorem info_gauss : (Try.prog.info? 23).map (fun i => (i.zero, i.size, i.bytes)) = some (some (.agg #[.int .i64 0, .int .i64 0]), 2, 16) := by kernel_rfl
def stopAt (xs : List Int) (r s : Int) (k : Nat) : Int × Int := turnG (xs.getD k 0, 0) (quartAt r s k)
def stopSpec (xs : List Int) (r s : Int) : List (Int × Int) × Int := if askErr xs [] s ≠ 0 then ([], askErr xs [] s) else if 0 ≤ r ∧ r ≤ 3 then (fullL (stopAt xs r s) xs.length, 0) else ([], 2)
theorem stop_err {xs : List Int} {r s : Int} (h : ¬ askErr xs [] s = 0) : stopSpec xs r s = ([], askErr xs [] s) := by simp [stopSpec, h]
theorem stop_arg {xs : List Int} {r s : Int} (h : askErr xs [] s = 0) (h2 : ¬ (0 ≤ r ∧ r ≤ 3)) : stopSpec xs r s = ([], 2) := by simp [stopSpec, h, h2]
theorem stop_ok {xs : List Int} {r s : Int} (h : askErr xs [] s = 0) (h2 : 0 ≤ r ∧ r ≤ 3) : stopSpec xs r s = (fullL (stopAt xs r s) xs.length, 0) := by simp [stopSpec, h, h2]
theorem ask_nil (xs : List Int) (s : Int) : askErr xs [] s = if streamErr xs ≠ 0 then streamErr xs else if s < 1 ∨ 256 < s then 2 else 0 := by
  have h : streamErr ([] : List Int) = 0 := by decide
  simp [askErr, h]

set_option maxHeartbeats 4000000 in
theorem searchStop_any (A : Option Addr) (c : Nat) (xs : List Int) (r s : Int) (w : World) (hx : RI .i64 w A xs) (hl : xs.length ≤ 140737488355328) :
    Calls Try.prog 15 #[.slice A xs.length c, .int .i64 r, .int .i64 s] w (RetQ 23 w (stopSpec xs r s)) := by
  rcases (Decidable.em (streamErr xs = 0)).symm with he | he
  · have e1 : (streamErr xs != 0) = true := by simp [he]
    have HE := Lib.hid he
    clear he
    go_enter Try.func15, Try.ntmps15
    go_wp2_with fail
    refine (sampleCheck_any _ _ _ _ hx hl).mono ?_
    rintro e w' ⟨rfl, rfl⟩
    go_wp2
    go_ret2
    exact RetQ.nil (by have := HE.out; rw [stop_err (by rw [ask_nil]; simp [this]), ask_nil]; simp [this]) (Below.refl _ _)
  have e1 : (streamErr xs != 0) = false := by simp [he]
  have HE := Lib.hid he
  have hl5 := (streamErr_zero he).1
  clear he
  rcases (Decidable.em (1 ≤ s ∧ s ≤ 256)).symm with hs | hs
  · have d1 : decide (1 ≤ s ∧ s ≤ 256) = false := by simp; omega
    go_enter Try.func15, Try.ntmps15
    go_wp2_with fail
    refine (sampleCheck_any _ _ _ _ hx hl).mono ?_
    rintro e w' ⟨rfl, rfl⟩
    go_wp2_with fail
    refine (isStep_any _ _).mono ?_
    rintro e w' ⟨rfl, rfl⟩
    go_wp2
    go_ret2
    exact RetQ.nil (by have := HE.out; have h2 : askErr xs [] s = 2 := (by rw [ask_nil]; simp [this]; omega); rw [stop_err (by omega), h2]) (Below.refl _ _)
  have d1 : decide (1 ≤ s ∧ s ≤ 256) = true := by simp; omega
  have HA : Hid (askErr xs [] s = 0) := Lib.hid (by rw [ask_nil]; have := HE.out; simp [this]; omega)
  obtain ⟨hs1, hs2⟩ := hs
  rcases (Decidable.em (0 ≤ r ∧ r ≤ 3)).symm with hr | hr
  · have d2 : decide (0 ≤ r ∧ r ≤ 3) = false := by simp; omega
    go_enter Try.func15, Try.ntmps15
    go_wp2_with fail
    refine (sampleCheck_any _ _ _ _ hx hl).mono ?_
    rintro e w' ⟨rfl, rfl⟩
    go_wp2_with fail
    refine (isStep_any _ _).mono ?_
    rintro e w' ⟨rfl, rfl⟩
    go_wp2_with fail
    refine (isRate_any _ _).mono ?_
    rintro e w' ⟨rfl, rfl⟩
    go_wp2
    go_ret2
    exact RetQ.nil (stop_arg HA.out hr) (Below.refl _ _)
  have d2 : decide (0 ≤ r ∧ r ≤ 3) = true := by simp; omega
  obtain ⟨hr1, hr2⟩ := hr
  obtain ⟨i0, hi0, hz0, hz1, hz2⟩ := info_parts info_gauss
  have hmk := mk_row (P := Try.prog) 37 23 Try.underlying37 hi0 hz0 hz1 hz2 encP encP_len (by omega) (0, 0) rfl xs.length (by omega) (by omega)
  go_enter Try.func15, Try.ntmps15
  go_wp2_with fail
  refine (sampleCheck_any _ _ _ _ hx hl).mono ?_
  rintro e w' ⟨rfl, rfl⟩
  go_wp2_with fail
  refine (isStep_any _ _).mono ?_
  rintro e w' ⟨rfl, rfl⟩
  go_wp2_with fail
  refine (isRate_any _ _).mono ?_
  rintro e w' ⟨rfl, rfl⟩
  clear d1 d2 e1
  go_wp2
  go_loopg [10, 29] xs.length (fun gk _ i wr => ∃ k : Nat, k + gk = xs.length ∧ i = .int .i64 k ∧ Blk wr w.heap.size 23 ((partL (stopAt xs r s) (0, 0) xs.length k).flatMap encP).toArray ∧ Below w.heap.size w wr)
  case atStart => exact ⟨0, by omega, rfl, by rw [partL_start]; exact Blk.new w _ _, balloc (Below.refl _ _) _⟩
  case round =>
    obtain ⟨k, hk, rfl, hO, hb⟩ := hrel
    have hk' : k ≤ xs.length := by omega
    have HK := Lib.hid hk
    clear hk hmk
    have hg := hO.lt
    by_cases hlt : k < xs.length
    · obtain ⟨b1, off1, rfl, hlw1, hw1⟩ := hx.at2 hlt
      have hne : ¬ b1 = w.heap.size := by omega
      rw [getD_lt _ _ hlt] at hw1
      have hc1 := (hb.cell (p := ⟨b1, _, none⟩) hlw1).trans hw1
      have hv := stream_bd HE.out k
      rw [getD_lt _ _ hlt] at hv
      have hq1 : -9223372036854775807 ≤ ((xs[k], (0 : Int)) : Int × Int).1 := by simp only []; omega
      have hq2 : ((xs[k], (0 : Int)) : Int × Int).1 ≤ 9223372036854775807 := by simp only []; omega
      have hq3 : -9223372036854775807 ≤ ((xs[k], (0 : Int)) : Int × Int).2 := by simp only []; omega
      have hq4 : ((xs[k], (0 : Int)) : Int × Int).2 ≤ 9223372036854775807 := by simp only []; omega
      have z0 : ¬ s = 0 := by omega
      have z1 : (s == 0) = false := by simp [z0]
      have q1 := quot_bd (k := k) hs1
      have q2 := quart_bd (k := k) hs1 hr1 hr2
      have f2 : IntKind.i64.wrap ((k : Int) / s) = (k : Int) / s := IntWalk.i64_in _ (by omega)
      have f3 : IntKind.i64.wrap (-r) = -r := IntWalk.i64_in _ (by omega)
      have f4 : IntKind.i64.wrap (-r * ((k : Int) / s)) = -r * ((k : Int) / s) := IntWalk.i64_in _ (by omega)
      go_wp2
      go_region_held3 (fun w' => w'.cell? ⟨b1, off1 + k, none⟩ = some (.int .i64 xs[k]))
        (first
          | go_keep
          | exact (hB3.cell (p := ⟨b1, _, none⟩) hlw1).trans hw1
          | exact (((hB3.setCell (p := ⟨w.heap.size, _, none⟩) (Nat.le_refl _) _).setCell (p := ⟨w.heap.size, _, none⟩) (Nat.le_refl _) _).cell (p := ⟨b1, _, none⟩) hlw1).trans hw1)
        ((go_at_call 30; refine (turned_any (xs[k], 0) (-r * ((k : Int) / s)) _ hq1 hq2 hq3 hq4).mono ?_; rintro e w3 ⟨rfl, hb3⟩; have hB3 : Below w.heap.size w w3 := (bstep hb.drew hb3); have hO3 := hO.drew.keep hb3; have o0 := (blkP_at hO3 (j := k) (by rw [partL_len]; exact hlt)).1; have o1 := (blkP_at hO3 (j := k) (by rw [partL_len]; exact hlt)).2; have p0 := hO3.frozen (k * 2); have p1 := hO3.frozen (k * 2 + 1)))
      go_wp2
      go_roundg (gk - 1)
      case rel =>
        refine ⟨k + 1, by have := HK.out; omega, by go_num, ?_, ?_⟩
        · rw [← partL_set (stopAt xs r s) (0, 0) xs.length k (turnG (xs[k], 0) (-r * ((k : Int) / s))) (by unfold stopAt quartAt; rw [getD_lt _ _ hlt])]
          exact blkP_set hO3 (by rw [partL_len]; exact hlt) _
        · exact (hB3.setCell (p := ⟨w.heap.size, _, none⟩) (Nat.le_refl _) _).setCell (p := ⟨w.heap.size, _, none⟩) (Nat.le_refl _) _
      case measure => have := HK.out; omega
    · go_wp2
      go_ret2
      rw [partL_end _ _ _ _ (by omega)] at hO
      exact RetQ.blk (stop_ok HA.out ⟨hr1, hr2⟩) (fullL_len _ _) (by unfold maxLen; omega) hO (Nat.le_refl _) hb

set_option maxHeartbeats 4000000 in
theorem refStop_any (A : Option Addr) (c : Nat) (xs : List Int) (r s : Int) (w : World) (hx : RI .i64 w A xs) (hl : xs.length ≤ 140737488355328) :
    Calls Try.prog 16 #[.slice A xs.length c, .int .i64 r, .int .i64 s] w (RetQ 23 w (stopSpec xs r s)) := by
  have hN : RI .i64 w none ([] : List Int) := RI.nil
  have hask := asked20_any A none c 0 xs [] s w hx hN hl (by simp)
  rcases (Decidable.em (askErr xs [] s = 0)).symm with he | he
  · have e1 : (askErr xs [] s != 0) = true := by simp [he]
    have HE := Lib.hid he
    clear he
    go_enter Try.func16, Try.ntmps16
    go_wp2_with fail
    refine (hask).mono ?_
    rintro e w' ⟨rfl, rfl⟩
    go_wp2_with fail
    refine (hask).mono ?_
    rintro e w' ⟨rfl, rfl⟩
    go_wp2
    go_ret2
    exact RetQ.nil (stop_err HE.out) (Below.refl _ _)
  have e1 : (askErr xs [] s != 0) = false := by simp [he]
  obtain ⟨he1, _, hs1, hs2⟩ := askErr_zero he
  have HA := Lib.hid he
  have HE := Lib.hid he1
  have hl5 := (streamErr_zero he1).1
  clear he he1
  rcases (show (0 ≤ r ∧ r ≤ 3) ∨ r < 0 ∨ (0 ≤ r ∧ 3 < r) by omega).symm with hr | hr
  · have HR : Hid (¬ (0 ≤ r ∧ r ≤ 3)) := Lib.hid (by omega)
    rcases hr with hr | hr
    all_goals
      go_enter Try.func16, Try.ntmps16
      go_wp2_with fail
      refine (hask).mono ?_
      rintro e w' ⟨rfl, rfl⟩
      go_wp2
      go_ret2
      exact RetQ.nil (stop_arg HA.out HR.out) (Below.refl _ _)
  obtain ⟨hr1, hr2⟩ := hr
  obtain ⟨i0, hi0, hz0, hz1, hz2⟩ := info_parts info_gauss
  go_enter Try.func16, Try.ntmps16
  go_wp2_with fail
  refine (hask).mono ?_
  rintro e w' ⟨rfl, rfl⟩
  clear hask hN
  go_wp2
  go_loopg [8, 9] xs.length (fun gk v i wr => ∃ k : Nat, k + gk = xs.length ∧ i = .int .i64 k ∧ wr.ownsRow w.heap.size 23 2 v k ((fullL (stopAt xs r s) k).flatMap encP) ∧ Below w.heap.size w wr)
  case atStart => exact ⟨0, by omega, rfl, World.ownsRow_nil _ _ _ _, Below.refl _ _⟩
  case round =>
    obtain ⟨k, hk, rfl, hO, hb⟩ := hrel
    have hk' : k ≤ xs.length := by omega
    have HK := Lib.hid hk
    clear hk
    have hsz := hb.size
    by_cases hlt : k < xs.length
    · obtain ⟨b1, off1, rfl, hlw1, hw1⟩ := hx.at2 hlt
      rw [getD_lt _ _ hlt] at hw1
      have hc1 := (hb.cell (p := ⟨b1, _, none⟩) hlw1).trans hw1
      have hv := stream_bd HE.out k
      rw [getD_lt _ _ hlt] at hv
      have hq1 : -9223372036854775807 ≤ ((xs[k], (0 : Int)) : Int × Int).1 := by simp only []; omega
      have hq2 : ((xs[k], (0 : Int)) : Int × Int).1 ≤ 9223372036854775807 := by simp only []; omega
      have hq3 : -9223372036854775807 ≤ ((xs[k], (0 : Int)) : Int × Int).2 := by simp only []; omega
      have hq4 : ((xs[k], (0 : Int)) : Int × Int).2 ≤ 9223372036854775807 := by simp only []; omega
      have z0 : ¬ s = 0 := by omega
      have z1 : (s == 0) = false := by simp [z0]
      have q1 := quot_bd (k := k) hs1
      have q2 := quart_bd (k := k) hs1 hr1 hr2
      have f2 : IntKind.i64.wrap ((k : Int) / s) = (k : Int) / s := IntWalk.i64_in _ (by omega)
      have f3 : IntKind.i64.wrap (-r) = -r := IntWalk.i64_in _ (by omega)
      have f4 : IntKind.i64.wrap (-r * ((k : Int) / s)) = -r * ((k : Int) / s) := IntWalk.i64_in _ (by omega)
      go_wp2
      go_region_held3 (fun w' => w'.cell? ⟨b1, off1 + k, none⟩ = some (.int .i64 xs[k]))
        (first
          | go_keep
          | exact (hB4.cell (p := ⟨b1, _, none⟩) hlw1).trans hw1
          | exact (hB3.cell (p := ⟨b1, _, none⟩) hlw1).trans hw1
          | exact ((balloc hB3 _).cell (p := ⟨b1, _, none⟩) hlw1).trans hw1)
        ((first
          | (go_at_call 31; refine (Turned_any (xs[k], 0) (-r * ((k : Int) / s)) _ hq1 hq2 hq3 hq4).mono ?_; rintro e w3 ⟨rfl, hb3⟩; have hB3 : Below w.heap.size w w3 := (bstep hb.drew hb3); have hO3 := own_keep (World.ownsRow.drew hO) hb3)
          | (refine step_append_lies _ (by rfl) _ _ _ (by rfl) w.heap.size 23 i0 _ 2 16 Try.underlying37 hi0 hz0 hz1 hz2 rfl (by omega) _ k ((fullL (stopAt xs r s) k).flatMap encP) (by rfl) (World.ownsRow.alloc hO3 _) ⟨w3.heap.size, 0, none⟩ 1 1 (encP (turnG (xs[k], 0) (-r * ((k : Int) / s)))) (by rfl) (by rfl) (by exact encP_news w3 _ _) (encP_one _) (by omega) (by unfold maxLen; omega) (by omega) (by have := hB3.size; simp; omega) (w3.heap.size + 1) (by simp) ?_; intro gg cap w4 hown4 hgrow hat hlt4; have hB4 : Below w.heap.size w w4 := own_below (balloc hB3 _) (World.ownsRow.alloc hO3 _) hgrow (Nat.le_refl _) (by have := hB3.size; simp; omega))))
      go_wp2
      go_roundg (gk - 1)
      case rel =>
        refine ⟨k + 1, by have := HK.out; omega, by go_num, ?_, hB4⟩
        have e1 : stopAt xs r s k = turnG (xs[k], 0) (-r * ((k : Int) / s)) := by unfold stopAt quartAt; rw [getD_lt _ _ hlt]
        rw [fullL_succ, flat_snoc, e1]
        exact hown4
      case measure => have := HK.out; omega
    · have hkl : k = xs.length := by omega
      go_wp2
      go_ret2
      exact RetQ.own (stop_ok HA.out ⟨hr1, hr2⟩) (by first | (rw [fullL_len]; exact hkl.symm) | rw [fullL_len]) (by rw [← hkl]; exact hO) hb
end Go.Proofs.Ytnejmgnbamajdaa
