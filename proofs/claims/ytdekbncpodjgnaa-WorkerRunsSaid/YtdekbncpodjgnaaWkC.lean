/-
  Jobs of layer 19. Contract: fringeref19.Great.
-/
import Derived.Test.YtdekbncpodjgnaaPWkA
namespace Go.Proofs.Ytdekbncpodjgnaa
open Go.RowKit
set_option linter.unusedVariables false
set_option linter.unusedSimpArgs false
namespace Wk
open Lagw

theorem great_yes {xs ys : List Int} {m s : Int} (h : 300 < xs.length ∨ 300 < ys.length ∨ (40 < xs.length ∧ xs.length ≤ 256) ∨ (40 < ys.length ∧ ys.length ≤ 256) ∨ (40 < m ∧ m ≤ 255)) : greatJ xs ys m s = true :=
  decide_eq_true (by omega)
theorem great_go {xs ys : List Int} {m s : Int} (h : ¬ (300 < xs.length ∨ 300 < ys.length ∨ (40 < xs.length ∧ xs.length ≤ 256) ∨ (40 < ys.length ∧ ys.length ≤ 256) ∨ (40 < m ∧ m ≤ 255))) :
    Hid ((¬ jobErr xs ys m s = 0 → greatJ xs ys m s = false) ∧ (jobErr xs ys m s = 0 → greatJ xs ys m s = decide (12 < cdiv xs.length s.toNat))) := by
  refine Lib.hid ⟨fun h1 => decide_eq_false (by omega), fun h1 => ?_⟩
  unfold greatJ
  rw [decide_eq_decide]
  omega
set_option maxHeartbeats 8000000 in
theorem great_any (X Y : Option Addr) (cx cy : Nat) (xs ys : List Int) (m s : Int) (w : World) (hx : RI .i64 w X xs) (hy : RI .i64 w Y ys) (hl : xs.length ≤ 140737488355328) (hl2 : ys.length ≤ 140737488355328) :
    Calls Try.prog 9 #[.agg #[.slice X xs.length cx, .slice Y ys.length cy, .int .i64 m, .int .i64 s]] w fun e w' => e = .returned (.bool (greatJ xs ys m s)) ∧ Below w.heap.size w w' := by
  have hk := Blk.new w 24 #[.slice X xs.length cx, .slice Y ys.length cy, .int .i64 m, .int .i64 s]
  have hbX : Below w.heap.size w (w.alloc (.cells #[.slice X xs.length cx, .slice Y ys.length cy, .int .i64 m, .int .i64 s] 24)) := balloc (Below.refl _ _) _
  have q0 : World.cell? (w.alloc (.cells #[.slice X xs.length cx, .slice Y ys.length cy, .int .i64 m, .int .i64 s] 24)) ⟨w.heap.size, 0, none⟩ = some (.slice X xs.length cx) := hk.cell 0
  have f0 := hk.frozen 0
  have q1 : World.cell? (w.alloc (.cells #[.slice X xs.length cx, .slice Y ys.length cy, .int .i64 m, .int .i64 s] 24)) ⟨w.heap.size, 1, none⟩ = some (.slice Y ys.length cy) := hk.cell 1
  have f1 := hk.frozen 1
  have q2 : World.cell? (w.alloc (.cells #[.slice X xs.length cx, .slice Y ys.length cy, .int .i64 m, .int .i64 s] 24)) ⟨w.heap.size, 2, none⟩ = some (.int .i64 m) := hk.cell 2
  have f2 := hk.frozen 2
  have q3 : World.cell? (w.alloc (.cells #[.slice X xs.length cx, .slice Y ys.length cy, .int .i64 m, .int .i64 s] 24)) ⟨w.heap.size, 3, none⟩ = some (.int .i64 s) := hk.cell 3
  have f3 := hk.frozen 3
  have fl := hk.lt
  have hxk := hx.keep hbX
  have hyk := hy.keep hbX
  have HK := fun w hx hy => refCheckJ_any X Y cx cy xs ys m s w hx hy hl hl2
  have HY := Lib.hid (fun h => great_yes (xs := xs) (ys := ys) (m := m) (s := s) h)
  have HG := Lib.hid (fun h => great_go (xs := xs) (ys := ys) (m := m) (s := s) h)
  by_cases a1 : 300 < xs.length
  · have d1 : decide (300 < xs.length) = true := decide_eq_true a1
    go_enter Try.func9, Try.ntmps9
    go_wp2_with fail
    refine (long13_any _ _ _ _).mono ?_
    rintro _ _ ⟨rfl, rfl⟩
    go_wp2
    go_ret
    exact ⟨ret_bool (HY.out (by omega)).symm, hbX⟩
  have d1 : decide (300 < xs.length) = false := decide_eq_false a1
  by_cases a2 : 300 < ys.length
  · have d2 : decide (300 < ys.length) = true := decide_eq_true a2
    go_enter Try.func9, Try.ntmps9
    go_wp2_with fail
    refine (long13_any _ _ _ _).mono ?_
    rintro _ _ ⟨rfl, rfl⟩
    go_wp2_with fail
    refine (long13_any _ _ _ _).mono ?_
    rintro _ _ ⟨rfl, rfl⟩
    go_wp2
    go_ret
    exact ⟨ret_bool (HY.out (by omega)).symm, hbX⟩
  have d2 : decide (300 < ys.length) = false := decide_eq_false a2
  rcases (show (40 < xs.length ∧ xs.length ≤ 256) ∨ (¬ 40 < xs.length) ∨ (40 < xs.length ∧ ¬ xs.length ≤ 256) by omega) with ⟨b1, b2⟩ | b1 | ⟨b1, b2⟩
  · have d3 : decide (40 < xs.length) = true := decide_eq_true b1
    have d4 : decide (xs.length ≤ 256) = true := decide_eq_true b2
    go_enter Try.func9, Try.ntmps9
    go_wp2_with fail
    refine (long13_any _ _ _ _).mono ?_
    rintro _ _ ⟨rfl, rfl⟩
    go_wp2_with fail
    refine (long13_any _ _ _ _).mono ?_
    rintro _ _ ⟨rfl, rfl⟩
    go_wp2
    go_ret
    exact ⟨ret_bool (HY.out (by omega)).symm, hbX⟩
  all_goals rcases (show (40 < ys.length ∧ ys.length ≤ 256) ∨ (¬ 40 < ys.length) ∨ (40 < ys.length ∧ ¬ ys.length ≤ 256) by omega) with ⟨b3, b4⟩ | b3 | ⟨b3, b4⟩
  case inr.inl.inl | inr.inr.inl =>
    go_enter Try.func9, Try.ntmps9
    go_wp2_with fail
    refine (long13_any _ _ _ _).mono ?_
    rintro _ _ ⟨rfl, rfl⟩
    go_wp2_with fail
    refine (long13_any _ _ _ _).mono ?_
    rintro _ _ ⟨rfl, rfl⟩
    go_wp2
    go_ret
    exact ⟨ret_bool (HY.out (by omega)).symm, hbX⟩
  all_goals rcases (show (40 < m ∧ m ≤ 255) ∨ (¬ 40 < m) ∨ (40 < m ∧ ¬ m ≤ 255) by omega) with ⟨b5, b6⟩ | b5 | ⟨b5, b6⟩
  case inr.inl.inr.inl.inl | inr.inl.inr.inr.inl | inr.inr.inr.inl.inl | inr.inr.inr.inr.inl =>
    go_enter Try.func9, Try.ntmps9
    go_wp2_with fail
    refine (long13_any _ _ _ _).mono ?_
    rintro _ _ ⟨rfl, rfl⟩
    go_wp2_with fail
    refine (long13_any _ _ _ _).mono ?_
    rintro _ _ ⟨rfl, rfl⟩
    go_wp2
    go_ret
    exact ⟨ret_bool (HY.out (by omega)).symm, hbX⟩
  all_goals
    have HN := HG.out (by omega)
    rcases (Decidable.em (jobErr xs ys m s = 0)).symm with he | he
    · have e1 : (jobErr xs ys m s == 0) = false := by simp [he]
      have HV := HN.out.1 he
      clear he HN
      generalize jobErr xs ys m s = J at HK e1
      go_enter Try.func9, Try.ntmps9
      go_wp2_with fail
      refine (long13_any _ _ _ _).mono ?_
      rintro _ _ ⟨rfl, rfl⟩
      go_wp2_with fail
      refine (long13_any _ _ _ _).mono ?_
      rintro _ _ ⟨rfl, rfl⟩
      go_wp2_with fail
      refine (HK _ hxk hyk).mono ?_
      rintro _ w1 ⟨rfl, hb1⟩
      go_wp2
      go_ret
      exact ⟨ret_bool HV.symm, bstep hbX hb1⟩
    · have HV := HN.out.2 he
      clear HN
      obtain ⟨hs1, hs2, M, S, rfl, rfl, hM, hS1, hS2, hC⟩ := jobErr_zero he
      have hl5 := (streamErr_zero hs1).1
      have hl6 := (streamErr_zero hs2).1
      try (exfalso; omega)
      all_goals
        clear hs1 hs2
        rw [he] at HK
        clear he
        rw [Int.toNat_natCast] at HV
        have HC := fun w => refCount_any X Y xs.length ys.length cx cy M S w hS1 hS2 hl5
        generalize cdiv xs.length S = C at HV HC
        have HV2 := Lib.hid HV
        clear HV HG HY
        by_cases h12 : 12 < C
        · have d12 : decide (12 < (C : Int)) = true := by simp; omega
          have HV3 := Lib.hid (HV2.out.trans (decide_eq_true h12))
          go_enter Try.func9, Try.ntmps9
          go_wp2_with fail
          refine (long13_any _ _ _ _).mono ?_
          rintro _ _ ⟨rfl, rfl⟩
          go_wp2_with fail
          refine (long13_any _ _ _ _).mono ?_
          rintro _ _ ⟨rfl, rfl⟩
          go_wp2_with fail
          refine (HK _ hxk hyk).mono ?_
          rintro _ w1 ⟨rfl, hb1⟩
          have hk1 := hk.keep hb1
          have q0 : World.cell? w1 ⟨w.heap.size, 0, none⟩ = some (.slice X xs.length cx) := hk1.cell 0
          have f0 := hk1.frozen 0
          have q1 : World.cell? w1 ⟨w.heap.size, 1, none⟩ = some (.slice Y ys.length cy) := hk1.cell 1
          have f1 := hk1.frozen 1
          have q2 : World.cell? w1 ⟨w.heap.size, 2, none⟩ = some (.int .i64 (M : Int)) := hk1.cell 2
          have f2 := hk1.frozen 2
          have q3 : World.cell? w1 ⟨w.heap.size, 3, none⟩ = some (.int .i64 (S : Int)) := hk1.cell 3
          have f3 := hk1.frozen 3
          have fl := hk1.lt
          go_wp2_with fail
          refine (HC _).mono ?_
          rintro _ w2 ⟨rfl, hb2⟩
          go_wp2
          go_ret
          exact ⟨ret_bool HV3.out.symm, bstep (bstep hbX hb1) hb2⟩
        · have d12 : decide (12 < (C : Int)) = false := by simp; omega
          have HV3 := Lib.hid (HV2.out.trans (decide_eq_false h12))
          go_enter Try.func9, Try.ntmps9
          go_wp2_with fail
          refine (long13_any _ _ _ _).mono ?_
          rintro _ _ ⟨rfl, rfl⟩
          go_wp2_with fail
          refine (long13_any _ _ _ _).mono ?_
          rintro _ _ ⟨rfl, rfl⟩
          go_wp2_with fail
          refine (HK _ hxk hyk).mono ?_
          rintro _ w1 ⟨rfl, hb1⟩
          have hk1 := hk.keep hb1
          have q0 : World.cell? w1 ⟨w.heap.size, 0, none⟩ = some (.slice X xs.length cx) := hk1.cell 0
          have f0 := hk1.frozen 0
          have q1 : World.cell? w1 ⟨w.heap.size, 1, none⟩ = some (.slice Y ys.length cy) := hk1.cell 1
          have f1 := hk1.frozen 1
          have q2 : World.cell? w1 ⟨w.heap.size, 2, none⟩ = some (.int .i64 (M : Int)) := hk1.cell 2
          have f2 := hk1.frozen 2
          have q3 : World.cell? w1 ⟨w.heap.size, 3, none⟩ = some (.int .i64 (S : Int)) := hk1.cell 3
          have f3 := hk1.frozen 3
          have fl := hk1.lt
          go_wp2_with fail
          refine (HC _).mono ?_
          rintro _ w2 ⟨rfl, hb2⟩
          go_wp2
          go_ret
          exact ⟨ret_bool HV3.out.symm, bstep (bstep hbX hb1) hb2⟩
end Wk
end Go.Proofs.Ytdekbncpodjgnaa
