/-
  Parts of the proof of TopCorrelate: TpN.
-/
import Derived.Test.YtelkokcnedbmeaaGreatT37
import Derived.Test.YtelkokcnedbmeaaGreatT46
namespace Go.Proofs.YtelkokcnedbmeaaGreat
open Go.RowKit Runs Lagc Reg
set_option maxRecDepth 20000
set_option linter.unusedVariables false
set_option linter.unusedSimpArgs false
namespace Tpm
open Lagw Wk
theorem check16_l {A : Option Addr} {c T : Nat} {l : List (Int × Int)} (w : World) (hT : l.length = T) (he : lagErr l = 0) (hx : RL w A l) (hl : T ≤ 511) :
 Calls Tryz.prog 9 #[.slice A T c] w fun e w' => e = .returned (.int .i64 0) ∧ Below w.heap.size w w' := by
 subst hT
 have h := refCheck16_any A c l w hx (by omega)
 rw [he] at h
 exact h
theorem run_l {X Y A : Option Addr} {cx cy c M S : Nat} {xs ys : List Int} {l : List Ev} (hj : Job xs ys M S) (hcx : xs.length ≤ cx) (hl : l.length ≤ 40) :
 ∃ (SD : Acc) (d : List Bool) (t : List Int) (k e : Int),
  (∀ w, RI .i64 w X xs → RI .i64 w Y ys → RE w A l → Calls Tryz.prog 11 #[.agg #[.slice X xs.length cx, .slice Y ys.length cy, .int .i64 (M : Int), .int .i64 (S : Int)], .int .i64 2, .slice A l.length c] w fun e' w' =>
    ∃ S1 N1 G1 D T c1 c2 c3 c4 c5, e' = .returned (.tuple #[.agg #[.slice S1 SD.s.length c1, .slice N1 SD.n.length c2, .slice G1 SD.g.length c3, .slice D d.length c4, .slice T t.length c5], .int .i64 k, .int .i64 e]) ∧ RW w' S1 N1 G1 D T ⟨SD, d, t⟩ ∧ Below w.heap.size w w') ∧
  ((∀ S1 N1 G1 D T c1 c2 c3 c4 c5 w, RI .i64 w X xs → RI .i64 w Y ys → RW w S1 N1 G1 D T ⟨SD, d, t⟩ → Calls Tryz.prog 12 #[.agg #[.slice X xs.length cx, .slice Y ys.length cy, .int .i64 (M : Int), .int .i64 (S : Int)], .agg #[.slice S1 SD.s.length c1, .slice N1 SD.n.length c2, .slice G1 SD.g.length c3, .slice D d.length c4, .slice T t.length c5]] w fun e' w' =>
    ∃ A' c', e' = .returned (.tuple #[.slice A' (2 * M + 1) c', .int .i64 0]) ∧ RL w' A' (lagCells xs ys M) ∧ Below w.heap.size w w') ∨
   (∀ S1 N1 G1 D T c1 c2 c3 c4 c5 w, RI .i64 w X xs → RI .i64 w Y ys → RW w S1 N1 G1 D T ⟨SD, d, t⟩ → Calls Tryz.prog 12 #[.agg #[.slice X xs.length cx, .slice Y ys.length cy, .int .i64 (M : Int), .int .i64 (S : Int)], .agg #[.slice S1 SD.s.length c1, .slice N1 SD.n.length c2, .slice G1 SD.g.length c3, .slice D d.length c4, .slice T t.length c5]] w fun e' w' =>
    ∃ A' c', e' = .returned (.tuple #[.slice A' 0 c', .int .i64 22]) ∧ Below w.heap.size w w')) := by
 have hlx := hj.lx
 have hly := (streamErr_zero hj.y).1
 obtain ⟨d, t, k, e, hr1, _, hG, ht, hk, hek⟩ := run_facts (l := l) hj (N := 2) (by omega) (by omega) (by omega)
 have hws := work_small hj (st := (d, t)) hG
 refine ⟨sumA xs ys M S d, d, t, k, e, fun w hx hy hA => ?_, ?_⟩
 ·refine (run_any X Y A cx cy c xs ys M S 2 l w hx hy hcx (by omega) (by omega) hA (by omega)).mono ?_
  rintro e' w' h
  rw [show runS xs ys M S 2 l = _ from hr1] at h
  exact h
 ·have hR := fun S1 N1 G1 D T c1 c2 c3 c4 c5 w hx hy hr => result_any X Y S1 N1 G1 D T cx cy c1 c2 c3 c4 c5 xs ys M S (workS xs ys M S (d, t)) w hx hy hcx (by omega) (by omega) hr (by omega) (by omega) (by omega) (by omega) (by omega)
  rw [res_work hj (st := (d, t)) hG] at hR
  cases hall : d.all id with
  | true =>
   left
   intro S1 N1 G1 D T c1 c2 c3 c4 c5 w hx hy hr
   refine (hR S1 N1 G1 D T c1 c2 c3 c4 c5 w hx hy hr).mono ?_
   rintro e' w' ⟨A', c', rfl, ho, hb⟩
   have e1 := all_true hall
   rw [hG.d] at e1
   have e2 := sums_all hj
   rw [← e1] at e2
   simp only [hall, if_true, e2] at ho ⊢
   exact ⟨A', c', by rw [lagCells_len], own_RL ho, hb⟩
  | false =>
   right
   intro S1 N1 G1 D T c1 c2 c3 c4 c5 w hx hy hr
   refine (hR S1 N1 G1 D T c1 c2 c3 c4 c5 w hx hy hr).mono ?_
   rintro e' w' ⟨A', c', rfl, ho, hb⟩
   simp only [hall, Bool.false_eq_true, if_false] at ho ⊢
   exact ⟨A', c', rfl, hb⟩
set_option maxRecDepth 20000 in
set_option maxHeartbeats 16000000 in
theorem topCorrelate_walk (X : Option Addr) (cx : Nat) (xs : List Int) (Y : Option Addr) (cy : Nat) (ys : List Int) (most at_ size : Int) (A : Option Addr) (ca : Nat) (l : List Ev) (w : World)
 (hx : RI .i64 w X xs) (hlx : xs.length ≤ 9223372036854775807) (_ : ∀ x ∈ xs, (Lit.int .i64 x).wf = true) (hcx : xs.length ≤ cx) (hy : RI .i64 w Y ys) (hly : ys.length ≤ 9223372036854775807) (_ : ∀ x ∈ ys, (Lit.int .i64 x).wf = true) (hcy : ys.length ≤ cy)
 (hm : -9223372036854775808 ≤ most ∧ most ≤ 9223372036854775807) (ha : -9223372036854775808 ≤ at_ ∧ at_ ≤ 9223372036854775807) (hs : -9223372036854775808 ≤ size ∧ size ≤ 9223372036854775807) (hIE : InE w A ca l) :
 Calls Tryz.prog 3 #[.slice X xs.length cx, .slice Y ys.length cy, .int .i64 most, .int .i64 at_, .int .i64 size, .slice A l.length ca] w fun e w' => e = .returned (.bool true) ∧ Below w.heap.size w w' := by
 have hE := hIE.r
 have hll := hIE.len
 clear hIE
 by_cases h1 : 64 < xs.length
 ·have d1 : decide (64 < (xs.length : Int)) = true := decide_eq_true (by omega)
  go_enter Tryz.func3, Tryz.ntmps3
  go_wp2_with fail
  refine (alive_any _).mono ?_
  rintro _ w1 ⟨rfl, hb1⟩
  go_wp2
  go_ret
  exact ⟨rfl, balloc hb1 _⟩
 have d1 : decide (64 < (xs.length : Int)) = false := decide_eq_false (by omega)
 by_cases h2 : 64 < ys.length
 ·have d2 : decide (64 < (ys.length : Int)) = true := decide_eq_true (by omega)
  go_enter Tryz.func3, Tryz.ntmps3
  go_wp2_with fail
  refine (alive_any _).mono ?_
  rintro _ w1 ⟨rfl, hb1⟩
  go_wp2
  go_ret
  exact ⟨rfl, balloc hb1 _⟩
 have d2 : decide (64 < (ys.length : Int)) = false := decide_eq_false (by omega)
 by_cases h3 : most < 0
 ·have d3 : decide (most < 0) = true := decide_eq_true h3
  go_enter Tryz.func3, Tryz.ntmps3
  go_wp2_with fail
  refine (alive_any _).mono ?_
  rintro _ w1 ⟨rfl, hb1⟩
  go_wp2
  go_ret
  exact ⟨rfl, balloc hb1 _⟩
 have d3 : decide (most < 0) = false := decide_eq_false h3
 by_cases h4 : 32 < most
 ·have d4 : decide (32 < most) = true := decide_eq_true h4
  go_enter Tryz.func3, Tryz.ntmps3
  go_wp2_with fail
  refine (alive_any _).mono ?_
  rintro _ w1 ⟨rfl, hb1⟩
  go_wp2
  go_ret
  exact ⟨rfl, balloc hb1 _⟩
 have d4 : decide (32 < most) = false := decide_eq_false h4
 by_cases h5 : at_ < 1
 ·have d5 : decide (at_ < 1) = true := decide_eq_true h5
  go_enter Tryz.func3, Tryz.ntmps3
  go_wp2_with fail
  refine (alive_any _).mono ?_
  rintro _ w1 ⟨rfl, hb1⟩
  go_wp2
  go_ret
  exact ⟨rfl, balloc hb1 _⟩
 have d5 : decide (at_ < 1) = false := decide_eq_false h5
 by_cases h6 : (xs.length : Int) ≤ at_
 ·have d6 : decide ((xs.length : Int) ≤ at_) = true := decide_eq_true h6
  go_enter Tryz.func3, Tryz.ntmps3
  go_wp2_with fail
  refine (alive_any _).mono ?_
  rintro _ w1 ⟨rfl, hb1⟩
  go_wp2
  go_ret
  exact ⟨rfl, balloc hb1 _⟩
 have d6 : decide ((xs.length : Int) ≤ at_) = false := decide_eq_false h6
 by_cases h7 : 40 < l.length
 ·have d7 : decide (40 < (l.length : Int)) = true := decide_eq_true (by omega)
  go_enter Tryz.func3, Tryz.ntmps3
  go_wp2_with fail
  refine (alive_any _).mono ?_
  rintro _ w1 ⟨rfl, hb1⟩
  go_wp2
  go_ret
  exact ⟨rfl, balloc hb1 _⟩
 have d7 : decide (40 < (l.length : Int)) = false := decide_eq_false (by omega)
 by_cases h8 : jobErr xs ys most size = 0
 ·obtain ⟨ex, ey, M, S, rfl, rfl, hM, hS1, hS2, hC⟩ := jobErr_zero h8
  obtain ⟨n, rfl⟩ : ∃ n : Nat, at_ = n := ⟨at_.toNat, by omega⟩
  have HJ := Lib.hid h8
  have hn1 : 1 ≤ n := by omega
  have hn2 : n < xs.length := by omega
  have hM3 : M ≤ 32 := by omega
  have hx64 : xs.length ≤ 64 := by omega
  have hy64 : ys.length ≤ 64 := by omega
  have hl40 : l.length ≤ 40 := by omega
  clear h1 h2 h3 h4 h5 h6 h7 h8 hm ha hs hlx hly hll
  by_cases h9 : 12 < cdiv xs.length S
  ·have d9 : decide (12 < ((cdiv xs.length S : Nat) : Int)) = true := decide_eq_true (by omega)
   go_enter Tryz.func3, Tryz.ntmps3
   go_wp2_with fail
   refine (alive_any _).mono ?_
   rintro _ w1 ⟨rfl, hb1⟩
   have hB := hb1
   replace hx := hx.keep hb1
   replace hy := hy.keep hb1
   replace hE := hE.keep hb1
   clear hb1
   go_wp2_with fail
   obtain ⟨u1, hu1⟩ : ∃ u1, u1 = w1.alloc (.cells #[.slice X xs.length cx, .slice Y ys.length cy, .int .i64 (M : Int), .int .i64 (S : Int)] 26) := ⟨_, rfl⟩
   have vJ : Blk u1 w1.heap.size 26 #[.slice X xs.length cx, .slice Y ys.length cy, .int .i64 (M : Int), .int .i64 (S : Int)] := by rw [hu1]; exact Blk.new _ _ _
   have hbu : Below w1.heap.size w1 u1 := by rw [hu1]; exact balloc (Below.refl _ _) _
   rw [← hu1]
   clear hu1
   replace hB := bstep hB hbu
   replace hx := hx.keep hbu
   replace hy := hy.keep hbu
   replace hE := hE.keep hbu
   clear hbu
   generalize w1.heap.size = gJ at *
   refine (refCheckJ_any X Y cx cy xs ys M S _ hx hy (by omega) (by omega)).mono ?_
   rintro _ w2 ⟨rfl, hb2⟩
   replace hB := bstep hB hb2
   replace hx := hx.keep hb2
   replace hy := hy.keep hb2
   replace hE := hE.keep hb2
   replace vJ := vJ.keep hb2
   clear hb2
   have q0 : World.cell? w2 ⟨gJ, 0, none⟩ = some (.slice X xs.length cx) := vJ.cell 0
   have f0 := vJ.frozen 0
   have q1 : World.cell? w2 ⟨gJ, 1, none⟩ = some (.slice Y ys.length cy) := vJ.cell 1
   have f1 := vJ.frozen 1
   have q2 : World.cell? w2 ⟨gJ, 2, none⟩ = some (.int .i64 (M : Int)) := vJ.cell 2
   have f2 := vJ.frozen 2
   have q3 : World.cell? w2 ⟨gJ, 3, none⟩ = some (.int .i64 (S : Int)) := vJ.cell 3
   have f3 := vJ.frozen 3
   have fl := vJ.lt
   rw [HJ.out]
   go_wp2_with fail
   refine (refCount_any X Y xs.length ys.length cx cy M S _ (by omega) (by omega) (by omega)).mono ?_
   rintro _ w3 ⟨rfl, hb3⟩
   go_wp2
   go_ret
   exact ⟨rfl, bstep hB hb3⟩
  have d9 : decide (12 < ((cdiv xs.length S : Nat) : Int)) = false := decide_eq_false (by omega)
  clear h9
  obtain ⟨T, hT⟩ : ∃ T, T = 2 * M + 1 := ⟨_, rfl⟩
  have HT := Lib.hid hT
  have hT1 : T ≤ 511 := by omega
  have dT : ((T : Int) != 2 * (M : Int) + 1) = false := by simp; omega
  obtain ⟨SD, d, t, k, e, HRun, HRes⟩ := run_l (X := X) (Y := Y) (A := A) (cx := cx) (cy := cy) (c := ca) (l := l) ⟨ex, ey, hM, hS1, hS2, hC⟩ hcx hl40
  rw [← hT] at HRes
  have LW := Lib.hid ((lagCells_len xs ys M).trans hT.symm)
  have LE := Lib.hid (lagErr_cells ex ey (m := M) hM)
  have EX := Lib.hid ex
  have EY := Lib.hid ey
  have HR := Lib.hid HRun
  have HS := Lib.hid HRes
  clear ex ey HRun HRes hT
  go_enter Tryz.func3, Tryz.ntmps3
  go_wp2_with fail
  refine (alive_any _).mono ?_
  rintro _ w1 ⟨rfl, hb1⟩
  have hB := hb1
  replace hx := hx.keep hb1
  replace hy := hy.keep hb1
  replace hE := hE.keep hb1
  clear hb1
  go_wp2_with fail
  obtain ⟨u1, hu1⟩ : ∃ u1, u1 = w1.alloc (.cells #[.slice X xs.length cx, .slice Y ys.length cy, .int .i64 (M : Int), .int .i64 (S : Int)] 26) := ⟨_, rfl⟩
  have vJ : Blk u1 w1.heap.size 26 #[.slice X xs.length cx, .slice Y ys.length cy, .int .i64 (M : Int), .int .i64 (S : Int)] := by rw [hu1]; exact Blk.new _ _ _
  have hbu : Below w1.heap.size w1 u1 := by rw [hu1]; exact balloc (Below.refl _ _) _
  rw [← hu1]
  clear hu1
  replace hB := bstep hB hbu
  replace hx := hx.keep hbu
  replace hy := hy.keep hbu
  replace hE := hE.keep hbu
  clear hbu
  generalize w1.heap.size = gJ at *
  refine (refCheckJ_any X Y cx cy xs ys M S _ hx hy (by omega) (by omega)).mono ?_
  rintro _ w2 ⟨rfl, hb2⟩
  replace hB := bstep hB hb2
  replace hx := hx.keep hb2
  replace hy := hy.keep hb2
  replace hE := hE.keep hb2
  replace vJ := vJ.keep hb2
  clear hb2
  have q0 : World.cell? w2 ⟨gJ, 0, none⟩ = some (.slice X xs.length cx) := vJ.cell 0
  have f0 := vJ.frozen 0
  have q1 : World.cell? w2 ⟨gJ, 1, none⟩ = some (.slice Y ys.length cy) := vJ.cell 1
  have f1 := vJ.frozen 1
  have q2 : World.cell? w2 ⟨gJ, 2, none⟩ = some (.int .i64 (M : Int)) := vJ.cell 2
  have f2 := vJ.frozen 2
  have q3 : World.cell? w2 ⟨gJ, 3, none⟩ = some (.int .i64 (S : Int)) := vJ.cell 3
  have f3 := vJ.frozen 3
  have fl := vJ.lt
  rw [HJ.out]
  go_wp2_with fail
  refine (refCount_any X Y xs.length ys.length cx cy M S _ (by omega) (by omega) (by omega)).mono ?_
  rintro _ w3 ⟨rfl, hb3⟩
  replace hB := bstep hB hb3
  replace hx := hx.keep hb3
  replace hy := hy.keep hb3
  replace hE := hE.keep hb3
  replace vJ := vJ.keep hb3
  clear hb3
  clear q0 q1 q2 q3 f0 f1 f2 f3 fl
  go_wp2_with fail
  refine (of_l (M := M) EX.out EY.out hM HT.out rfl rfl _ hx hy).mono ?_
  rintro _ w4 ⟨A4, c4, rfl, r4, hb4⟩
  replace hB := bstep hB hb4
  replace hx := hx.keep hb4
  replace hy := hy.keep hb4
  replace hE := hE.keep hb4
  replace vJ := vJ.keep hb4
  clear hb4
  go_wp2_with fail
  refine (cross_l (M := M) EX.out EY.out hM HT.out rfl rfl hcx hcy _ hx hy).mono ?_
  rintro _ w5 ⟨A5, c5, rfl, r5, hb5⟩
  replace hB := bstep hB hb5
  replace hx := hx.keep hb5
  replace hy := hy.keep hb5
  replace hE := hE.keep hb5
  replace vJ := vJ.keep hb5
  replace r4 := r4.keep hb5
  clear hb5
  go_wp2_with fail
  refine (check16_l _ LW.out LE.out r4 hT1).mono ?_
  rintro _ w6 ⟨rfl, hb6⟩
  replace hB := bstep hB hb6
  replace hx := hx.keep hb6
  replace hy := hy.keep hb6
  replace hE := hE.keep hb6
  replace vJ := vJ.keep hb6
  replace r4 := r4.keep hb6
  replace r5 := r5.keep hb6
  clear hb6
  go_wp2_with fail
  refine (same16_l _ LW.out r5 r4 hT1).mono ?_
  rintro _ w7 ⟨rfl, hb7⟩
  replace hB := bstep hB hb7
  replace hx := hx.keep hb7
  replace hy := hy.keep hb7
  replace hE := hE.keep hb7
  replace vJ := vJ.keep hb7
  replace r4 := r4.keep hb7
  clear hb7
  clear r5
  have q0 : World.cell? w7 ⟨gJ, 0, none⟩ = some (.slice X xs.length cx) := vJ.cell 0
  have f0 := vJ.frozen 0
  have q1 : World.cell? w7 ⟨gJ, 1, none⟩ = some (.slice Y ys.length cy) := vJ.cell 1
  have f1 := vJ.frozen 1
  have q2 : World.cell? w7 ⟨gJ, 2, none⟩ = some (.int .i64 (M : Int)) := vJ.cell 2
  have f2 := vJ.frozen 2
  have q3 : World.cell? w7 ⟨gJ, 3, none⟩ = some (.int .i64 (S : Int)) := vJ.cell 3
  have f3 := vJ.frozen 3
  have fl := vJ.lt
  go_wp2_with fail
  refine (HR.out _ hx hy hE).mono ?_
  rintro _ w8 ⟨S8, N8, G8, D8, T8, y1, y2, y3, y4, y5, rfl, rw8, hb8⟩
  replace hB := bstep hB hb8
  replace hx := hx.keep hb8
  replace hy := hy.keep hb8
  replace vJ := vJ.keep hb8
  replace r4 := r4.keep hb8
  clear hb8
  clear q0 q1 q2 q3 f0 f1 f2 f3 fl hE
  have q0 : World.cell? w8 ⟨gJ, 0, none⟩ = some (.slice X xs.length cx) := vJ.cell 0
  have f0 := vJ.frozen 0
  have q1 : World.cell? w8 ⟨gJ, 1, none⟩ = some (.slice Y ys.length cy) := vJ.cell 1
  have f1 := vJ.frozen 1
  have q2 : World.cell? w8 ⟨gJ, 2, none⟩ = some (.int .i64 (M : Int)) := vJ.cell 2
  have f2 := vJ.frozen 2
  have q3 : World.cell? w8 ⟨gJ, 3, none⟩ = some (.int .i64 (S : Int)) := vJ.cell 3
  have f3 := vJ.frozen 3
  have fl := vJ.lt
  go_wp2_with fail
  obtain ⟨u8, hu8⟩ : ∃ u8, u8 = w8.alloc (.cells #[.slice S8 SD.s.length y1, .slice N8 SD.n.length y2, .slice G8 SD.g.length y3, .slice D8 d.length y4, .slice T8 t.length y5] 40) := ⟨_, rfl⟩
  have hbu : Below w8.heap.size w8 u8 := by rw [hu8]; exact balloc (Below.refl _ _) _
  rw [← hu8]
  clear hu8
  replace hB := bstep hB hbu
  replace hx := hx.keep hbu
  replace hy := hy.keep hbu
  replace r4 := r4.keep hbu
  replace rw8 := rw8.keep hbu
  clear hbu
  clear q0 q1 q2 q3 f0 f1 f2 f3 fl vJ
  rcases HS.out with HRes | HRes
  ·refine (HRes S8 N8 G8 D8 T8 y1 y2 y3 y4 y5 _ hx hy rw8).mono ?_
   rintro _ w9 ⟨A9, c9, rfl, r9, hb9⟩
   clear HRes HS HR rw8
   replace hB := bstep hB hb9
   replace hx := hx.keep hb9
   replace hy := hy.keep hb9
   replace r4 := r4.keep hb9
   clear hb9
   go_wp2_with fail
   refine (same16_l _ LW.out r9 r4 hT1).mono ?_
   rintro _ w10 ⟨rfl, hb10⟩
   clear r9
   replace hB := bstep hB hb10
   replace hx := hx.keep hb10
   replace hy := hy.keep hb10
   replace r4 := r4.keep hb10
   clear hb10
   go_wp2_with fail
   refine (merged_any X Y A4 cx cy c4 xs ys M n T _ hx hy r4 EX.out EY.out hM HT.out hn1 hn2 hcx).mono ?_
   rintro _ wa ⟨rfl, hba⟩
   replace hB := bstep hB hba
   replace hx := hx.keep hba
   replace hy := hy.keep hba
   replace r4 := r4.keep hba
   clear hba
   go_wp2_with fail
   refine (recorded_any X Y A4 cx cy c4 xs ys M n T _ hx hy r4 EX.out EY.out hM HT.out hn1 hn2 hcx).mono ?_
   rintro _ wb ⟨rfl, hbb⟩
   replace hB := bstep hB hbb
   replace hx := hx.keep hbb
   replace hy := hy.keep hbb
   replace r4 := r4.keep hbb
   clear hbb
   go_wp2_with fail
   refine (packed_any X Y A4 cx cy c4 xs ys M T _ hx hy r4 EX.out EY.out hM HT.out).mono ?_
   rintro _ wd ⟨rfl, hbd⟩
   replace hB := bstep hB hbd
   replace hx := hx.keep hbd
   replace hy := hy.keep hbd
   replace r4 := r4.keep hbd
   clear hbd
   go_wp2_with fail
   refine (looked_any X Y A4 cx cy c4 xs ys M T _ hx hy r4 EX.out EY.out hM3 HT.out).mono ?_
   rintro _ we ⟨rfl, hbe⟩
   replace hB := bstep hB hbe
   go_wp2
   go_ret
   exact ⟨rfl, hB⟩
  ·refine (HRes S8 N8 G8 D8 T8 y1 y2 y3 y4 y5 _ hx hy rw8).mono ?_
   rintro _ w9 ⟨A9, c9, rfl, hb9⟩
   clear HRes HS HR rw8
   replace hB := bstep hB hb9
   replace hx := hx.keep hb9
   replace hy := hy.keep hb9
   replace r4 := r4.keep hb9
   clear hb9
   go_wp2_with fail
   refine (merged_any X Y A4 cx cy c4 xs ys M n T _ hx hy r4 EX.out EY.out hM HT.out hn1 hn2 hcx).mono ?_
   rintro _ wa ⟨rfl, hba⟩
   replace hB := bstep hB hba
   replace hx := hx.keep hba
   replace hy := hy.keep hba
   replace r4 := r4.keep hba
   clear hba
   go_wp2_with fail
   refine (recorded_any X Y A4 cx cy c4 xs ys M n T _ hx hy r4 EX.out EY.out hM HT.out hn1 hn2 hcx).mono ?_
   rintro _ wb ⟨rfl, hbb⟩
   replace hB := bstep hB hbb
   replace hx := hx.keep hbb
   replace hy := hy.keep hbb
   replace r4 := r4.keep hbb
   clear hbb
   go_wp2_with fail
   refine (packed_any X Y A4 cx cy c4 xs ys M T _ hx hy r4 EX.out EY.out hM HT.out).mono ?_
   rintro _ wd ⟨rfl, hbd⟩
   replace hB := bstep hB hbd
   replace hx := hx.keep hbd
   replace hy := hy.keep hbd
   replace r4 := r4.keep hbd
   clear hbd
   go_wp2_with fail
   refine (looked_any X Y A4 cx cy c4 xs ys M T _ hx hy r4 EX.out EY.out hM3 HT.out).mono ?_
   rintro _ we ⟨rfl, hbe⟩
   replace hB := bstep hB hbe
   go_wp2
   go_ret
   exact ⟨rfl, hB⟩
 ·have d8 : (jobErr xs ys most size != 0) = true := by simp [h8]
  go_enter Tryz.func3, Tryz.ntmps3
  go_wp2_with fail
  refine (alive_any _).mono ?_
  rintro _ w1 ⟨rfl, hb1⟩
  go_wp2_with fail
  refine (refCheckJ_any X Y cx cy xs ys most size _ (hx.keep (balloc hb1 _)) (hy.keep (balloc hb1 _)) (by omega) (by omega)).mono ?_
  rintro _ w2 ⟨rfl, hb2⟩
  go_wp2
  go_ret
  exact ⟨rfl, bstep (balloc hb1 _) hb2⟩
end Tpm
end Go.Proofs.YtelkokcnedbmeaaGreat
