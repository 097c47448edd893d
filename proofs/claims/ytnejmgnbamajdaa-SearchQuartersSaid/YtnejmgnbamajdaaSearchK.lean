/-
  The walk of SearchQuarters.
-/
import Derived.Test.YtnejmgnbamajdaaSearchJ
namespace Go.Proofs.Ytnejmgnbamajdaa
open Go.RowKit
set_option linter.unusedVariables false

theorem turnG_add (v : Int × Int) (q p : Int) : turnG (turnG v q) p = turnG v (q + p) := by
  obtain ⟨a, b⟩ := v
  rcases (show q % 4 = 0 ∨ q % 4 = 1 ∨ q % 4 = 2 ∨ q % 4 = 3 by omega) with h | h | h | h <;>
  rcases (show p % 4 = 0 ∨ p % 4 = 1 ∨ p % 4 = 2 ∨ p % 4 = 3 by omega) with h' | h' | h' | h' <;>
  first
  | (have h2 : (q + p) % 4 = 0 := by omega
     simp [turnG, h, h', h2])
  | (have h2 : (q + p) % 4 = 1 := by omega
     simp [turnG, h, h', h2])
  | (have h2 : (q + p) % 4 = 2 := by omega
     simp [turnG, h, h', h2])
  | (have h2 : (q + p) % 4 = 3 := by omega
     simp [turnG, h, h', h2])
theorem turnG_fit {v : Int × Int} (q : Int) (h : fitG v) : fitG (turnG v q) := turnG_bd (B := 1000000000) q h
theorem turnG_back {v : Int × Int} {q : Int} : turnG (turnG v q) (4 - q.tmod 4) = v := by
  rw [turnG_add]
  have := Int.mul_tdiv_add_tmod q 4
  exact turnG_0 (by omega)

set_option maxRecDepth 100000 in
set_option maxHeartbeats 4000000 in
theorem searchQuarters_walk (v : Int × Int) (q p : Int) (w : World)
    (_ : -9223372036854775808 ≤ q ∧ q ≤ 9223372036854775807) (_ : -9223372036854775808 ≤ p ∧ p ≤ 9223372036854775807) :
    Calls Try.prog 5 #[gaussV v, .int .i64 q, .int .i64 p] w fun e w' => e = .returned (.bool true) ∧ Below w.heap.size w w' := by
  obtain ⟨v0, v1⟩ := v
  have hb0 : Below w.heap.size w (w.alloc (.cells #[.int .i64 v0, .int .i64 v1] 23)) := balloc (Below.refl _ _) _
  have hV := Blk.new w 23 #[.int .i64 v0, .int .i64 v1]
  rcases (show (-1000 ≤ q ∧ q ≤ 1000 ∧ -1000 ≤ p ∧ p ≤ 1000) ∨ q < -1000 ∨ (-1000 ≤ q ∧ 1000 < q) ∨ (-1000 ≤ q ∧ q ≤ 1000 ∧ p < -1000) ∨ (-1000 ≤ q ∧ q ≤ 1000 ∧ -1000 ≤ p ∧ 1000 < p) by omega).symm with h | h
  · rcases h with h | h | h | h
    all_goals
      go_enter Try.func5, Try.ntmps5
      go_wp2_with fail
      refine (alive20 _).mono ?_
      rintro _ w1 ⟨rfl, hb1⟩
      go_wp2
      go_ret
      exact ⟨rfl, bstep hb0 hb1⟩
  obtain ⟨h1, h2, h3, h4⟩ := h
  by_cases hf : fitG (v0, v1)
  · have HF := Lib.hid hf
    have e1 := turn_ok (q := q) hf
    have e2 := turn_ok (q := p) (turnG_fit q hf)
    have e3 := turn_ok (q := q + p) hf
    have e4 := turn_ok (q := 4 - q.tmod 4) (turnG_fit q hf)
    rw [turnG_add] at e2
    rw [turnG_back] at e4
    obtain ⟨T, hT⟩ : ∃ T, T = turnG (v0, v1) q := ⟨_, rfl⟩
    obtain ⟨U, hU⟩ : ∃ U, U = turnG (v0, v1) (q + p) := ⟨_, rfl⟩
    rw [← hT] at e1 e2 e4
    rw [← hU] at e2 e3
    have H1 := fun w => searchTurn_any (v0, v1) q w
    have H2 := fun w => searchTurn_any T p w
    have H3 := fun w => searchTurn_any (v0, v1) (q + p) w
    have H4 := fun w => searchTurn_any T (4 - q.tmod 4) w
    rw [e1] at H1
    rw [e2] at H2
    rw [e3] at H3
    rw [e4] at H4
    clear e1 e2 e3 e4 hT hU hf
    have qb := quarter_bd q
    go_enter Try.func5, Try.ntmps5
    go_wp2_with fail
    refine (alive20 _).mono ?_
    rintro _ w1 ⟨rfl, hb1⟩
    have hB1 := bstep hb0 hb1
    replace hV := hV.keep hb1
    have q0 : World.cell? w1 ⟨w.heap.size, 0, none⟩ = some (.int .i64 v0) := hV.cell 0
    have qf0 := hV.frozen 0
    have q1 : World.cell? w1 ⟨w.heap.size, 1, none⟩ = some (.int .i64 v1) := hV.cell 1
    have qf1 := hV.frozen 1
    have qfl := hV.lt
    clear hb1
    go_wp2_with fail
    refine (H1 _).mono ?_
    rintro _ w2 ⟨rfl, hb2⟩
    have hT := Blk.new w2 23 #[.int .i64 T.1, .int .i64 T.2]
    have hb2' := balloc hb2 (.cells #[.int .i64 T.1, .int .i64 T.2] 23)
    replace hV := hV.keep hb2'
    have hB2 := bstep hB1 hb2'
    clear hb2 hb2' hB1 q0 q1 qf0 qf1
    go_wp2_with fail
    refine (H2 _).mono ?_
    rintro _ w3 ⟨rfl, hb3⟩
    have hU := Blk.new w3 23 #[.int .i64 U.1, .int .i64 U.2]
    replace hV := hV.keep hb3
    replace hT := hT.keep hb3
    have q0 : World.cell? w3 ⟨w.heap.size, 0, none⟩ = some (.int .i64 v0) := hV.cell 0
    have qf0 := hV.frozen 0
    have q1 : World.cell? w3 ⟨w.heap.size, 1, none⟩ = some (.int .i64 v1) := hV.cell 1
    have qf1 := hV.frozen 1
    have qfl := hV.lt
    have t0 : World.cell? w3 ⟨w2.heap.size, 0, none⟩ = some (.int .i64 T.1) := hT.cell 0
    have tf0 := hT.frozen 0
    have t1 : World.cell? w3 ⟨w2.heap.size, 1, none⟩ = some (.int .i64 T.2) := hT.cell 1
    have tf1 := hT.frozen 1
    have tfl := hT.lt
    have hB3 := balloc (bstep hB2 hb3) (.cells #[.int .i64 U.1, .int .i64 U.2] 23)
    replace hV := hV.alloc (.cells #[.int .i64 U.1, .int .i64 U.2] 23)
    replace hT := hT.alloc (.cells #[.int .i64 U.1, .int .i64 U.2] 23)
    clear hb3 hB2
    go_wp2_with fail
    refine (H3 _).mono ?_
    rintro _ w4 ⟨rfl, hb4⟩
    replace hV := hV.keep hb4
    replace hT := hT.keep hb4
    replace hU := hU.keep hb4
    have hU2 := Blk.new w4 23 #[.int .i64 U.1, .int .i64 U.2]
    have hB4 := balloc (bstep hB3 hb4) (.cells #[.int .i64 U.1, .int .i64 U.2] 23)
    have q0 : World.cell? w4 ⟨w.heap.size, 0, none⟩ = some (.int .i64 v0) := hV.cell 0
    have qf0 := hV.frozen 0
    have q1 : World.cell? w4 ⟨w.heap.size, 1, none⟩ = some (.int .i64 v1) := hV.cell 1
    have qf1 := hV.frozen 1
    have qfl := hV.lt
    have t0 : World.cell? w4 ⟨w2.heap.size, 0, none⟩ = some (.int .i64 T.1) := hT.cell 0
    have tf0 := hT.frozen 0
    have t1 : World.cell? w4 ⟨w2.heap.size, 1, none⟩ = some (.int .i64 T.2) := hT.cell 1
    have tf1 := hT.frozen 1
    have tfl := hT.lt
    replace hV := hV.alloc (.cells #[.int .i64 U.1, .int .i64 U.2] 23)
    replace hU := hU.alloc (.cells #[.int .i64 U.1, .int .i64 U.2] 23)
    clear hb4 hB3
    go_wp2_with fail
    refine (H4 _).mono ?_
    rintro _ w5 ⟨rfl, hb5⟩
    replace hV := hV.keep hb5
    replace hU := hU.keep hb5
    replace hU2 := hU2.keep hb5
    have hB5 := balloc (bstep hB4 hb5) (.cells #[.int .i64 v0, .int .i64 v1] 23)
    have q0 : World.cell? w5 ⟨w.heap.size, 0, none⟩ = some (.int .i64 v0) := hV.cell 0
    have qf0 := hV.frozen 0
    have q1 : World.cell? w5 ⟨w.heap.size, 1, none⟩ = some (.int .i64 v1) := hV.cell 1
    have qf1 := hV.frozen 1
    have qfl := hV.lt
    have u0 : World.cell? w5 ⟨w3.heap.size, 0, none⟩ = some (.int .i64 U.1) := hU.cell 0
    have uf0 := hU.frozen 0
    have u1 : World.cell? w5 ⟨w3.heap.size, 1, none⟩ = some (.int .i64 U.2) := hU.cell 1
    have uf1 := hU.frozen 1
    have ufl := hU.lt
    have s0 : World.cell? w5 ⟨w4.heap.size, 0, none⟩ = some (.int .i64 U.1) := hU2.cell 0
    have sf0 := hU2.frozen 0
    have s1 : World.cell? w5 ⟨w4.heap.size, 1, none⟩ = some (.int .i64 U.2) := hU2.cell 1
    have sf1 := hU2.frozen 1
    have sfl := hU2.lt
    have g1 := eqg_gauss
    have g2 := eq_gauss
    go_wp2
    go_ret
    exact ⟨by simp, hB5⟩
  · have H1 := fun w => searchTurn_any (v0, v1) q w
    rw [turn_no hf] at H1
    clear hf
    have g1 := eqg_gauss
    have g2 := eq_gauss
    go_enter Try.func5, Try.ntmps5
    go_wp2_with fail
    refine (alive20 _).mono ?_
    rintro _ w1 ⟨rfl, hb1⟩
    have hB1 := bstep hb0 hb1
    replace hV := hV.keep hb1
    have q0 : World.cell? w1 ⟨w.heap.size, 0, none⟩ = some (.int .i64 v0) := hV.cell 0
    have qf0 := hV.frozen 0
    have q1 : World.cell? w1 ⟨w.heap.size, 1, none⟩ = some (.int .i64 v1) := hV.cell 1
    have qf1 := hV.frozen 1
    have qfl := hV.lt
    clear hb1
    go_wp2_with fail
    refine (H1 _).mono ?_
    rintro _ w2 ⟨rfl, hb2⟩
    go_wp2
    go_ret
    exact ⟨rfl, balloc (bstep hB1 hb2) _⟩
end Go.Proofs.Ytnejmgnbamajdaa
