/-
  Contracts: search.turned, fringeref20.Turned, search.Turn, fringeref20.Turn, the checks of layer 20.
-/
import Derived.Test.YtnejmgnbamajdaaSample
import Derived.Test.YtnejmgnbamajdaaRets
import Derived.Deep.LoopGhost
import Derived.StillTailTactics
namespace Go.Proofs.Ytnejmgnbamajdaa
open Go.RowKit
set_option linter.unusedVariables false

/-- A Gaussian integer turned by q quarters. -/
def turnG (v : Int × Int) (q : Int) : Int × Int := if q % 4 = 1 then (-v.2, v.1) else if q % 4 = 2 then (-v.1, -v.2) else if q % 4 = 3 then (v.2, -v.1) else v
theorem quarter_bd (q : Int) : -4 < q.tmod 4 ∧ q.tmod 4 < 4 := ⟨Int.lt_tmod_of_pos q (by omega), Int.tmod_lt_of_pos q (by omega)⟩
theorem quarter (q : Int) : (q.tmod 4 + 4).tmod 4 = q % 4 := by
  have h := quarter_bd q
  have h2 := Int.mul_tdiv_add_tmod q 4
  rw [Int.tmod_eq_emod_of_nonneg (by omega)]
  omega
theorem turnG_1 {v : Int × Int} {q : Int} (h : q % 4 = 1) : turnG v q = (-v.2, v.1) := by simp [turnG, h]
theorem turnG_2 {v : Int × Int} {q : Int} (h : q % 4 = 2) : turnG v q = (-v.1, -v.2) := by simp [turnG, h]
theorem turnG_3 {v : Int × Int} {q : Int} (h : q % 4 = 3) : turnG v q = (v.2, -v.1) := by simp [turnG, h]
theorem turnG_0 {v : Int × Int} {q : Int} (h : q % 4 = 0) : turnG v q = v := by simp [turnG, h]
abbrev gaussV (v : Int × Int) : Value := .agg #[.int .i64 v.1, .int .i64 v.2]

theorem turned_any (v : Int × Int) (q : Int) (w : World) (h1 : -9223372036854775807 ≤ v.1) (h2 : v.1 ≤ 9223372036854775807) (h3 : -9223372036854775807 ≤ v.2) (h4 : v.2 ≤ 9223372036854775807) :
    Calls Try.prog 30 #[gaussV v, .int .i64 q] w fun e w' => e = .returned (gaussV (turnG v q)) ∧ Below w.heap.size w w' := by
  obtain ⟨hb1, hb2⟩ := quarter_bd q
  have hq := quarter q
  obtain ⟨v0, v1⟩ := v
  rcases (show q % 4 = 0 ∨ q % 4 = 1 ∨ q % 4 = 2 ∨ q % 4 = 3 by omega) with h | h | h | h
  all_goals
    rw [h] at hq
    go_enter Try.func30, Try.ntmps30
    go_wp2
  · exact bodyPost_ret (v := gaussV (v0, v1)) (by simp [results, Try.results30, go_sem]) rfl ⟨by rw [turnG_0 h], balloc (balloc (Below.refl _ _) _) _⟩
  · exact bodyPost_ret (v := gaussV (-v1, v0)) (by simp [results, Try.results30, go_sem]) rfl ⟨by rw [turnG_1 h], balloc (balloc (Below.refl _ _) _) _⟩
  · exact bodyPost_ret (v := gaussV (-v0, -v1)) (by simp [results, Try.results30, go_sem]) rfl ⟨by rw [turnG_2 h], balloc (balloc (Below.refl _ _) _) _⟩
  · exact bodyPost_ret (v := gaussV (v1, -v0)) (by simp [results, Try.results30, go_sem]) rfl ⟨by rw [turnG_3 h], balloc (balloc (Below.refl _ _) _) _⟩
theorem Turned_any (v : Int × Int) (q : Int) (w : World) (h1 : -9223372036854775807 ≤ v.1) (h2 : v.1 ≤ 9223372036854775807) (h3 : -9223372036854775807 ≤ v.2) (h4 : v.2 ≤ 9223372036854775807) :
    Calls Try.prog 31 #[gaussV v, .int .i64 q] w fun e w' => e = .returned (gaussV (turnG v q)) ∧ Below w.heap.size w w' := by
  obtain ⟨hb1, hb2⟩ := quarter_bd q
  have hq := quarter q
  obtain ⟨v0, v1⟩ := v
  rcases (show q % 4 = 0 ∨ q % 4 = 1 ∨ q % 4 = 2 ∨ q % 4 = 3 by omega) with h | h | h | h
  all_goals
    rw [h] at hq
    go_enter Try.func31, Try.ntmps31
    go_wp2
  · exact bodyPost_ret (v := gaussV (v0, v1)) (by simp [results, Try.results31, go_sem]) rfl ⟨by rw [turnG_0 h], balloc (balloc (Below.refl _ _) _) _⟩
  · exact bodyPost_ret (v := gaussV (-v1, v0)) (by simp [results, Try.results31, go_sem]) rfl ⟨by rw [turnG_1 h], balloc (balloc (Below.refl _ _) _) _⟩
  · exact bodyPost_ret (v := gaussV (-v0, -v1)) (by simp [results, Try.results31, go_sem]) rfl ⟨by rw [turnG_2 h], balloc (balloc (Below.refl _ _) _) _⟩
  · exact bodyPost_ret (v := gaussV (v1, -v0)) (by simp [results, Try.results31, go_sem]) rfl ⟨by rw [turnG_3 h], balloc (balloc (Below.refl _ _) _) _⟩

theorem fits_any (x : Int) (w : World) : Calls Try.prog 29 #[.int .i64 x] w fun e w' => e = .returned (.bool (decide (-1000000000 ≤ x ∧ x ≤ 1000000000))) ∧ w = w' := by
  go_enter Try.func29, Try.ntmps29
  go_wp2
  all_goals go_ret
  all_goals exact ⟨ret_bool (by symm; simp; omega), rfl⟩
theorem isStep_any (x : Int) (w : World) : Calls Try.prog 38 #[.int .i64 x] w fun e w' => e = .returned (.bool (decide (1 ≤ x ∧ x ≤ 256))) ∧ w = w' := by
  go_enter Try.func38, Try.ntmps38
  go_wp2
  all_goals go_ret
  all_goals exact ⟨ret_bool (by symm; simp; omega), rfl⟩
theorem isRate_any (x : Int) (w : World) : Calls Try.prog 33 #[.int .i64 x] w fun e w' => e = .returned (.bool (decide (0 ≤ x ∧ x ≤ 3))) ∧ w = w' := by
  go_enter Try.func33, Try.ntmps33
  go_wp2
  all_goals go_ret
  all_goals exact ⟨ret_bool (by symm; simp; omega), rfl⟩

def fitG (v : Int × Int) : Prop := -1000000000 ≤ v.1 ∧ v.1 ≤ 1000000000 ∧ -1000000000 ≤ v.2 ∧ v.2 ≤ 1000000000
instance (v : Int × Int) : Decidable (fitG v) := by unfold fitG; exact inferInstance
def turnSpec (v : Int × Int) (q : Int) : (Int × Int) × Int := if fitG v then (turnG v q, 0) else ((0, 0), 16)
theorem turn_ok {v : Int × Int} {q : Int} (h : fitG v) : turnSpec v q = (turnG v q, 0) := by simp [turnSpec, h]
theorem turn_no {v : Int × Int} {q : Int} (h : ¬ fitG v) : turnSpec v q = ((0, 0), 16) := by simp [turnSpec, h]
abbrev turnV (r : (Int × Int) × Int) : Value := .tuple #[gaussV r.1, .int .i64 r.2]

theorem searchTurn_any (v : Int × Int) (q : Int) (w : World) :
    Calls Try.prog 11 #[gaussV v, .int .i64 q] w fun e w' => e = .returned (turnV (turnSpec v q)) ∧ Below w.heap.size w w' := by
  obtain ⟨v0, v1⟩ := v
  have hdec : fitG (v0, v1) ∨ ¬ (-1000000000 ≤ v0 ∧ v0 ≤ 1000000000) ∨ ((-1000000000 ≤ v0 ∧ v0 ≤ 1000000000) ∧ ¬ (-1000000000 ≤ v1 ∧ v1 ≤ 1000000000)) := by unfold fitG; simp only []; omega
  rcases hdec with h | h | ⟨h0, h⟩
  · obtain ⟨a1, a2, a3, a4⟩ := h
    simp only [] at a1 a2 a3 a4
    have d0 : decide (-1000000000 ≤ v0 ∧ v0 ≤ 1000000000) = true := by simp; omega
    have d1 : decide (-1000000000 ≤ v1 ∧ v1 ≤ 1000000000) = true := by simp; omega
    go_enter Try.func11, Try.ntmps11
    go_wp2_with (go_at_call 29; refine (fits_any _ _).mono ?_; rintro e w' ⟨rfl, rfl⟩)
    refine (turned_any (v0, v1) _ _ (by simp only []; omega) (by simp only []; omega) (by simp only []; omega) (by simp only []; omega)).mono ?_
    rintro e w1 ⟨rfl, hb1⟩
    have hR := (Blk.newAt (w := w.alloc (.cells #[.int .i64 v0, .int .i64 v1] 23)) (g := w.heap.size + 1) 23 #[.int .i64 0, .int .i64 0] (by simp)).keep hb1
    have hB1 := bstep (balloc (balloc (Below.refl _ _) _) _) hb1
    have r0 := hR.frozen 0
    have r1 := hR.frozen 1
    have q0 : w1.cell? ⟨w.heap.size + 1, 0, none⟩ = some (.int .i64 0) := hR.cell 0
    have q1 : w1.cell? ⟨w.heap.size + 1, 1, none⟩ = some (.int .i64 0) := hR.cell 1
    have hg := hR.lt
    clear d0 d1 hb1
    go_wp2
    refine bodyPost_ret (v := turnV (turnG (v0, v1) q, 0)) (by simp [results, Try.results11, go_sem, q0, q1]) rfl ⟨?_, ?_⟩
    · rw [turn_ok (v := (v0, v1)) ⟨a1, a2, a3, a4⟩]
    · exact (hB1.setCell (p := ⟨w.heap.size + 1, 0, none⟩) (by simp) _).setCell (p := ⟨w.heap.size + 1, 1, none⟩) (by simp) _
  · have d0 : decide (-1000000000 ≤ v0 ∧ v0 ≤ 1000000000) = false := by simp; omega
    go_enter Try.func11, Try.ntmps11
    go_wp2_with (go_at_call 29; refine (fits_any _ _).mono ?_; rintro e w' ⟨rfl, rfl⟩)
    refine bodyPost_ret (v := turnV ((0, 0), 16)) (by simp [results, Try.results11, go_sem]) rfl ⟨?_, balloc (balloc (Below.refl _ _) _) _⟩
    rw [turn_no (by unfold fitG; simp only []; omega)]
  · have d0 : decide (-1000000000 ≤ v0 ∧ v0 ≤ 1000000000) = true := by simp; omega
    have d1 : decide (-1000000000 ≤ v1 ∧ v1 ≤ 1000000000) = false := by simp; omega
    go_enter Try.func11, Try.ntmps11
    go_wp2_with (go_at_call 29; refine (fits_any _ _).mono ?_; rintro e w' ⟨rfl, rfl⟩)
    refine bodyPost_ret (v := turnV ((0, 0), 16)) (by simp [results, Try.results11, go_sem]) rfl ⟨?_, balloc (balloc (Below.refl _ _) _) _⟩
    rw [turn_no (by unfold fitG; simp only []; omega)]

theorem refTurn_any (v : Int × Int) (q : Int) (w : World) :
    Calls Try.prog 12 #[gaussV v, .int .i64 q] w fun e w' => e = .returned (turnV (turnSpec v q)) ∧ Below w.heap.size w w' := by
  obtain ⟨v0, v1⟩ := v
  have hdec : fitG (v0, v1) ∨ v0 < -1000000000 ∨ (-1000000000 ≤ v0 ∧ 1000000000 < v0) ∨ (-1000000000 ≤ v0 ∧ v0 ≤ 1000000000 ∧ v1 < -1000000000) ∨ (-1000000000 ≤ v0 ∧ v0 ≤ 1000000000 ∧ -1000000000 ≤ v1 ∧ 1000000000 < v1) := by unfold fitG; simp only []; omega
  rcases hdec with h | h
  · obtain ⟨a1, a2, a3, a4⟩ := h
    simp only [] at a1 a2 a3 a4
    go_enter Try.func12, Try.ntmps12
    go_wp2_with fail
    refine (Turned_any (v0, v1) _ _ (by simp only []; omega) (by simp only []; omega) (by simp only []; omega) (by simp only []; omega)).mono ?_
    rintro e w1 ⟨rfl, hb1⟩
    have hR := (Blk.newAt (w := w.alloc (.cells #[.int .i64 v0, .int .i64 v1] 23)) (g := w.heap.size + 1) 23 #[.int .i64 0, .int .i64 0] (by simp)).keep hb1
    have hB1 := bstep (balloc (balloc (Below.refl _ _) _) _) hb1
    have r0 := hR.frozen 0
    have r1 := hR.frozen 1
    have q0 : w1.cell? ⟨w.heap.size + 1, 0, none⟩ = some (.int .i64 0) := hR.cell 0
    have q1 : w1.cell? ⟨w.heap.size + 1, 1, none⟩ = some (.int .i64 0) := hR.cell 1
    have hg := hR.lt
    clear hb1
    go_wp2
    refine bodyPost_ret (v := turnV (turnG (v0, v1) q, 0)) (by simp [results, Try.results12, go_sem, q0, q1]) rfl ⟨?_, ?_⟩
    · rw [turn_ok (v := (v0, v1)) ⟨a1, a2, a3, a4⟩]
    · exact (hB1.setCell (p := ⟨w.heap.size + 1, 0, none⟩) (by simp) _).setCell (p := ⟨w.heap.size + 1, 1, none⟩) (by simp) _
  · have hn : ¬ fitG (v0, v1) := by unfold fitG; simp only []; omega
    rcases h with h | h | h | h
    all_goals
      go_enter Try.func12, Try.ntmps12
      go_wp2
      refine bodyPost_ret (v := turnV ((0, 0), 16)) (by simp [results, Try.results12, go_sem]) rfl ⟨?_, balloc (balloc (Below.refl _ _) _) _⟩
      rw [turn_no hn]

/-- The error of two streams and a step. -/
def askErr (xs ys : List Int) (s : Int) : Int := if streamErr xs ≠ 0 then streamErr xs else if streamErr ys ≠ 0 then streamErr ys else if s < 1 ∨ 256 < s then 2 else 0
theorem askErr_zero {xs ys : List Int} {s : Int} (h : askErr xs ys s = 0) : streamErr xs = 0 ∧ streamErr ys = 0 ∧ 1 ≤ s ∧ s ≤ 256 := by
  unfold askErr at h
  repeat' split at h
  all_goals omega
theorem check20_any (A B : Option Addr) (c d : Nat) (xs ys : List Int) (s : Int) (w : World) (hx : RI .i64 w A xs) (hy : RI .i64 w B ys) (hl : xs.length ≤ 140737488355328) (hl2 : ys.length ≤ 140737488355328) :
    Calls Try.prog 32 #[.slice A xs.length c, .slice B ys.length d, .int .i64 s] w fun e w' => e = .returned (.int .i64 (askErr xs ys s)) ∧ w = w' := by
  by_cases h1 : streamErr xs = 0
  · have e1 : (streamErr xs != 0) = false := by simp [h1]
    by_cases h2 : streamErr ys = 0
    · have e2 : (streamErr ys != 0) = false := by simp [h2]
      have HH := Lib.hid (And.intro h1 h2)
      clear h1 h2
      by_cases h3 : 1 ≤ s ∧ s ≤ 256
      · have d3 : decide (1 ≤ s ∧ s ≤ 256) = true := by simp; omega
        go_enter Try.func32, Try.ntmps32
        go_wp2_with fail
        refine (sampleCheck_any _ _ _ _ hx hl).mono ?_
        rintro e w' ⟨rfl, rfl⟩
        go_wp2_with fail
        refine (sampleCheck_any _ _ _ _ hy hl2).mono ?_
        rintro e w' ⟨rfl, rfl⟩
        go_wp2_with fail
        refine (isStep_any _ _).mono ?_
        rintro e w' ⟨rfl, rfl⟩
        go_wp2
        go_ret
        exact ⟨ret_int (by have := HH.out; simp [askErr, this]; omega), rfl⟩
      · have d3 : decide (1 ≤ s ∧ s ≤ 256) = false := by simp; omega
        go_enter Try.func32, Try.ntmps32
        go_wp2_with fail
        refine (sampleCheck_any _ _ _ _ hx hl).mono ?_
        rintro e w' ⟨rfl, rfl⟩
        go_wp2_with fail
        refine (sampleCheck_any _ _ _ _ hy hl2).mono ?_
        rintro e w' ⟨rfl, rfl⟩
        go_wp2_with fail
        refine (isStep_any _ _).mono ?_
        rintro e w' ⟨rfl, rfl⟩
        go_wp2
        go_ret
        exact ⟨ret_int (by have := HH.out; simp [askErr, this]; omega), rfl⟩
    · have e2 : (streamErr ys != 0) = true := by simp [h2]
      have HH := Lib.hid (And.intro h1 h2)
      clear h1 h2
      go_enter Try.func32, Try.ntmps32
      go_wp2_with fail
      refine (sampleCheck_any _ _ _ _ hx hl).mono ?_
      rintro e w' ⟨rfl, rfl⟩
      go_wp2_with fail
      refine (sampleCheck_any _ _ _ _ hy hl2).mono ?_
      rintro e w' ⟨rfl, rfl⟩
      go_wp2
      go_ret
      exact ⟨ret_int (by have := HH.out; simp [askErr, this]), rfl⟩
  · have e1 : (streamErr xs != 0) = true := by simp [h1]
    have HH := Lib.hid h1
    clear h1
    go_enter Try.func32, Try.ntmps32
    go_wp2_with (go_at_call 37; refine (sampleCheck_any A _ xs _ hx hl).mono ?_; rintro e w' ⟨rfl, rfl⟩)
    go_ret
    exact ⟨ret_int (by have := HH.out; simp [askErr, this]), rfl⟩
theorem asked20_any (A B : Option Addr) (c d : Nat) (xs ys : List Int) (s : Int) (w : World) (hx : RI .i64 w A xs) (hy : RI .i64 w B ys) (hl : xs.length ≤ 140737488355328) (hl2 : ys.length ≤ 140737488355328) :
    Calls Try.prog 35 #[.slice A xs.length c, .slice B ys.length d, .int .i64 s] w fun e w' => e = .returned (.int .i64 (askErr xs ys s)) ∧ w = w' := by
  by_cases h1 : streamErr xs = 0
  · have e1 : (streamErr xs != 0) = false := by simp [h1]
    by_cases h2 : streamErr ys = 0
    · have e2 : (streamErr ys != 0) = false := by simp [h2]
      have HH := Lib.hid (And.intro h1 h2)
      clear h1 h2
      rcases (show (1 ≤ s ∧ s ≤ 256) ∨ s < 1 ∨ (1 ≤ s ∧ 256 < s) by omega) with h3 | h3 | h3
      all_goals
        go_enter Try.func35, Try.ntmps35
        go_wp2_with fail
        refine (refCheck13_any _ _ _ _ hx hl).mono ?_
        rintro e w' ⟨rfl, rfl⟩
        go_wp2_with fail
        refine (refCheck13_any _ _ _ _ hy hl2).mono ?_
        rintro e w' ⟨rfl, rfl⟩
        go_wp2
        go_ret
        exact ⟨ret_int (by have := HH.out; simp [askErr, this]; omega), rfl⟩
    · have e2 : (streamErr ys != 0) = true := by simp [h2]
      have HH := Lib.hid (And.intro h1 h2)
      clear h1 h2
      go_enter Try.func35, Try.ntmps35
      go_wp2_with fail
      refine (refCheck13_any _ _ _ _ hx hl).mono ?_
      rintro e w' ⟨rfl, rfl⟩
      go_wp2_with fail
      refine (refCheck13_any _ _ _ _ hy hl2).mono ?_
      rintro e w' ⟨rfl, rfl⟩
      go_wp2_with fail
      refine (refCheck13_any _ _ _ _ hy hl2).mono ?_
      rintro e w' ⟨rfl, rfl⟩
      go_wp2
      go_ret
      exact ⟨ret_int (by have := HH.out; simp [askErr, this]), rfl⟩
  · have e1 : (streamErr xs != 0) = true := by simp [h1]
    have HH := Lib.hid h1
    clear h1
    go_enter Try.func35, Try.ntmps35
    go_wp2_with (go_at_call 40; refine (refCheck13_any A _ xs _ hx hl).mono ?_; rintro e w' ⟨rfl, rfl⟩)
    go_ret
    exact ⟨ret_int (by have := HH.out; simp [askErr, this]), rfl⟩
end Go.Proofs.Ytnejmgnbamajdaa
